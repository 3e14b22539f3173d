/- Plain laws of the field's functions. -/
import Derived.Test.YtpjenmchinpgaaaGreatDoorU2p
import Derived.Test.YtpjenmchinpgaaaGreatDoorWl
import Derived.Test.YtpjenmchinpgaaaGreatDoorSp
set_option linter.unusedVariables false
namespace Pu
open Gw Gl Sp
theorem zz {a b:Nat} (h:a=b):(((a:Nat):Int) == ((b:Nat):Int))=true:=eT (by rw [h])
theorem PD {a b:Nat} (h:a≠b):(((a:Nat):Int) == ((b:Nat):Int))=false:=eF (by omega)
theorem Hj {p:Nat} (hp:fX p):tu p=some (qP p):=by
  rcases hp with rfl | rfl | rfl | rfl | rfl | rfl | rfl <;> decide +kernel
theorem zi {a b:Nat} (ha:a < 18446744073709551616) (hb:b < 18446744073709551616):wI a b=a &&& b:=by
  unfold wI;rw [Nat.mod_eq_of_lt ha,Nat.mod_eq_of_lt hb]
theorem uf {a q:Nat} (hq:q≤64):uR a ((q:Nat):Int)=some (a / 2 ^ q):=by
  unfold uR
  rw [if_neg (by omega)]
  simp [Nat.min_eq_left hq]
theorem yX {a q:Nat} (hq:q≤64):Cw a ((q:Nat):Int)=some (a*2 ^ q % 18446744073709551616):=by
  unfold Cw
  rw [if_neg (by omega)]
  simp [Nat.min_eq_left hq]
theorem xl {a b:Nat} (h:b≤a) (ha:a < 18446744073709551616):yx a b=a - b:=by unfold yx;omega
theorem DV {p h l:Nat} (hp:fX p) (hh:h < 18446744073709551616) (hl:l < 18446744073709551616) (c:h≠0 ∨ p < l):gW p (qP p) h l=some (.go (nh p h l,nl p h l)):=by
  have hq:=hp.q
  have hpl:=hp.lt
  unfold gW
  have hx:(bif ((h:Nat):Int) != (0:Int) then some true else some (decide (((l:Nat):Int) > ((p:Nat):Int))))=some true:=by
    by_cases h0:h=0
    · subst h0
      rw [qF (by simp),cF,dT (by omega)]
    · rw [qT (by omega),cT]
  rw [hx]
  simp only [bS,cT]
  rw [uf (by omega),bS,xl (by omega) (by omega),yX (by omega)]
  simp only [bS]
  rw [uf (by omega)]
  simp only [bS]
  have e1:wI l p=fm p l:=by rw [zi hl (by omega),KZ hp hl]
  have e2:Ns (l / 2 ^ qP p) (h*2 ^ (64 - qP p) % 18446744073709551616)=fl p h l:=by
    unfold Ns
    rw [Nat.mod_eq_of_lt (Nat.lt_of_le_of_lt (Nat.div_le_self ..) hl),Nat.mod_mod]
    exact Nt hp hl
  rw [e1,e2]
  have e3:nD (h / 2 ^ qP p) (HF (fl p h l) (fm p l))=nh p h l:=by
    have:=Np (p:=p) hp hh hl
    show (fh p h+nc p h l) % _=_
    exact Nat.mod_eq_of_lt this
  rw [e3];rfl
theorem Fu {p h l:Nat} (c:¬ (h≠0 ∨ p < l)):gW p (qP p) h l=some (.fin l):=by
  unfold gW
  have h0:h=0:=by omega
  subst h0
  rw [qF (by simp),cF,dF (by omega)]
  simp only [bS,cF]
theorem zS {p h l:Nat} (hp:fX p) (hh:h < 4611686018427387904) (hl:l < 18446744073709551616):nf p h l=some ((h*18446744073709551616+l) % p):=by
  unfold nf
  rw [Hj hp,bS]
  obtain ⟨r,e,hr⟩:=ny (step:=fun (st:Nat × Nat)=>gW p (qP p) st.1 st.2)
    (fun st=>st.1 < 4611686018427387904∧st.2 < 18446744073709551616∧(st.1*18446744073709551616+st.2) % p=(h*18446744073709551616+l) % p)
    (fun r=>r≤p∧r % p=(h*18446744073709551616+l) % p) (fun st=>K0 st.1 st.2) (fun st ⟨h1,h2,h3⟩=>by
      by_cases c:st.1≠0 ∨ p < st.2
      · refine ⟨_,DV hp (by omega) h2 c,⟨?_,Kw,?_⟩,HU hp h1 h2 c⟩
        · by_cases h0:st.1=0
          · rw [h0]
            show nh p 0 st.2 < _
            rw [(FZ hp h2 (by omega)).1];omega
          · have:=FY hp (by omega) h2 h0
            show nh p st.1 st.2 < _
            omega
        · exact Fv hp h3
      · refine ⟨_,Fu c,?_,?_⟩
        · show st.2≤p;omega
        · show st.2 % p=_
          rw [← h3]
          have:st.1=0:=by omega
          rw [this];simp) (s:=(h,l)) ⟨hh,hl,rfl⟩ (K1 hh hl)
  rw [e,bS]
  by_cases g:r=p
  · subst g
    rw [zz rfl,cT,← hr.2,Nat.mod_self]
  · rw [PD g,cF,← hr.2,Nat.mod_eq_of_lt (by omega)]
theorem LP {a b:Nat} (ha:a < 18446744073709551616) (hb:b < 18446744073709551616):lL a b=some (a*b / 18446744073709551616,a*b % 18446744073709551616):=by
  unfold lL
  have h32:∀ x,x < 18446744073709551616→wI x 4294967295=x % 4294967296:=fun x hx=>by
    rw [zi hx (by omega)];exact Nat.and_two_pow_sub_one_eq_mod x 32
  have s32:∀ x,uR x (32:Int)=some (x / 4294967296):=fun x=>uf (q:=32) (by omega)
  have l1:∀ x y,nD x y < 18446744073709551616:=fun x y=>Nat.mod_lt _ (by decide)
  simp only [bS,s32,h32 a ha,h32 b hb,h32 _ (l1 _ _)]
  have m:=Nn a b
  simp only at m
  have ha1:a / 4294967296 < 4294967296:=by omega
  have hb1:b / 4294967296 < 4294967296:=by omega
  have ha0:a % 4294967296 < 4294967296:=Nat.mod_lt _ (by decide)
  have hb0:b % 4294967296 < 4294967296:=Nat.mod_lt _ (by decide)
  have c00:=C9 ha0 hb0
  have c10:=C9 ha1 hb0
  have c01:=C9 ha0 hb1
  have c11:=C9 ha1 hb1
  have hi:=LS ha hb
  have k1:wU (a % 4294967296) (b % 4294967296)=a % 4294967296*(b % 4294967296):=Nat.mod_eq_of_lt (by omega)
  have k2:wU (a / 4294967296) (b % 4294967296)=a / 4294967296*(b % 4294967296):=Nat.mod_eq_of_lt (by omega)
  have k3:wU (a % 4294967296) (b / 4294967296)=a % 4294967296*(b / 4294967296):=Nat.mod_eq_of_lt (by omega)
  have k4:wU (a / 4294967296) (b / 4294967296)=a / 4294967296*(b / 4294967296):=Nat.mod_eq_of_lt (by omega)
  rw [k1,k2,k3,k4]
  generalize a % 4294967296*(b % 4294967296)=A at *
  generalize a / 4294967296*(b % 4294967296)=B at *
  generalize a % 4294967296*(b / 4294967296)=C at *
  generalize a / 4294967296*(b / 4294967296)=D at *
  have k5:nD B (A / 4294967296)=B+A / 4294967296:=Nat.mod_eq_of_lt (by omega)
  rw [k5]
  have k6:nD ((B+A / 4294967296) % 4294967296) C=(B+A / 4294967296) % 4294967296+C:=Nat.mod_eq_of_lt (by omega)
  rw [k6]
  have k7:nD D ((B+A / 4294967296) / 4294967296)=D+(B+A / 4294967296) / 4294967296:=Nat.mod_eq_of_lt (by omega)
  rw [k7]
  have k8:nD (D+(B+A / 4294967296) / 4294967296) (((B+A / 4294967296) % 4294967296+C) / 4294967296)=D+(B+A / 4294967296) / 4294967296+((B+A / 4294967296) % 4294967296+C) / 4294967296:=Nat.mod_eq_of_lt (by omega)
  rw [k8,m]
  rfl
theorem jX {p a b:Nat} (hp:fX p) (ha:a < p) (hb:b < p):dc p a b=some (a*b % p):=by
  have hl:=hp.lt
  unfold dc
  rw [LP (by omega) (by omega),bS]
  have h1:a*b≤2305843009213693951*2305843009213693951:=Nat.mul_le_mul (by omega) (by omega)
  have h2:a*b / 18446744073709551616 < 4611686018427387904:=by omega
  have h3:a*b % 18446744073709551616 < 18446744073709551616:=Nat.mod_lt _ (by decide)
  rw [zS hp h2 h3]
  simp only [bS]
  congr 2
  have:=Nat.div_add_mod (a*b) 18446744073709551616
  rw [Nat.mul_comm] at this
  exact this
theorem vI {p a b:Nat} (hp:fX p) (h:a+b < 18446744073709551616):kV p a b=some ((a+b) % p):=by
  unfold kV
  have:nD a b=a+b:=Nat.mod_eq_of_lt h
  rw [this]
  simp only [bS]
  rw [zS hp (by decide) h]
  simp only [bS,Nat.zero_mul,Nat.zero_add]
theorem yP {p a:Nat} (hp:fX p) (h:a < 18446744073709551616):my p a=some (a % p):=by
  unfold my
  rw [zS hp (by decide) h]
  simp only [bS,Nat.zero_mul,Nat.zero_add]
theorem Cl {p a:Nat} (hp:fX p) (h:a < p):mc p a=some ((p - a) % p):=by
  have hl:=hp.lt
  unfold mc
  by_cases g:a=0
  · subst g;rw [eT (by simp),cT];simp
  · rw [eF (by omega),cF,xl (by omega) (by omega)]
    simp only [bS]
    rw [Nat.mod_eq_of_lt (by omega)]
theorem Ah {p a b:Nat} (hp:fX p) (ha:a < p) (hb:b < p):md p a b=some ((a+(p - b) % p) % p):=by
  have hl:=hp.lt
  have:=Nat.mod_lt (p - b) hp.pos
  unfold md
  rw [Cl hp hb,bS,vI hp (by omega),bS]
theorem L3 {p a n:Nat} (hp:fX p) (ha:a < p) (hn:n < 18446744073709551616):tX p a n=some (a ^ n % p):=by
  have hl:=hp.lt
  unfold tX
  obtain ⟨r,e,hr⟩:=ny (step:=fun (st:Nat × Nat × Nat)=>mw p st.1 st.2.1 st.2.2)
    (fun st=>st.1 < p∧st.2.1 < 18446744073709551616∧st.2.2 < p∧st.2.2*st.1 ^ st.2.1 % p=a ^ n % p)
    (fun r=>r=a ^ n % p) (fun st=>st.2.1) (fun st ⟨h1,h2,h3,h4⟩=>by
      obtain ⟨x,m,o⟩:=st
      simp only at h1 h2 h3 h4
      unfold mw
      by_cases c:m=0
      · subst c
        rw [dF (by simp),cF]
        refine ⟨_,rfl,?_⟩
        show o=_
        rw [← h4];simp [Nat.mod_eq_of_lt h3]
      · rw [dT (by simp;omega),cT]
        have a1:wI m 1=m % 2:=by rw [zi h2 (by decide)];exact Nat.and_two_pow_sub_one_eq_mod m 1
        have s1:uR m (1:Int)=some (m / 2):=uf (q:=1) (by omega)
        rw [bS,a1]
        by_cases g:m % 2=1
        · rw [eT (by omega),cT,jX hp h3 h1,bS,jX hp h1 h1,bS,s1,bS]
          exact ⟨_,rfl,⟨Nat.mod_lt _ hp.pos,by show m / 2 < _;omega,Nat.mod_lt _ hp.pos,pow_odd h4 g⟩,by show m / 2 < m;omega⟩
        · rw [eF (by omega),cF,jX hp h1 h1,bS,s1,bS]
          exact ⟨_,rfl,⟨Nat.mod_lt _ hp.pos,by show m / 2 < _;omega,h3,pow_even h4 (by omega)⟩,by show m / 2 < m;omega⟩)
    (s:=(a,n,1)) ⟨ha,hn,(show (1:Nat) < p by omega),by simp⟩ hn
  rw [e,bS,hr]
theorem FL {p a:Nat} (hp:fX p) (ha:a < p) (h0:a≠0):jT p a=some (JF p a (p - 2),0):=by
  have hl:=hp.lt
  unfold jT
  rw [eF (by omega),cF,xl (by omega) (by omega)]
  simp only [bS]
  rw [L3 hp ha (by omega),bS]
  rfl
theorem zY {p a b:Nat} [NeZero p] (hb:b < p):o p ((a+(p - b) % p) % p)=o p a - o p b:=by
  rw [mf,yK,mf,Kx (by omega),Gb];grind
theorem LV {p b:Nat} [NeZero p] (hb:b < p):o p ((p - b) % p) = - o p b:=by
  rw [mf,Kx (by omega),Gb];grind
end Pu

/- Plain laws of the elimination. -/
set_option linter.unusedVariables false
namespace Pu
open Gw Gl Sp Lean.Grind
structure qW (p h n:Nat) (l:List (List Nat)):Prop where
  len:l.length=h
  row:∀ i,i < h→(l.getD i []).length=n
  lt:∀ i,i < h→∀ j,j < n→(l.getD i []).getD j 0 < p
def G (p:Nat) [NeZero p] (l:List (List Nat)) (i j:Nat):Fin p:=o p ((l.getD i []).getD j 0)
theorem xB {l:List Nat} (h:l.length≤1000):cx l=some l:=by
  unfold cx
  rw [aM (by simp;omega) (by simp;omega),bS,List.nil_append]
theorem ri {l:List (List Nat)} (h:l.length≤1000):b8 l=some l:=by
  unfold b8
  rw [aM (by simp;omega) (by simp;omega),bS,List.nil_append]
theorem qR {α:Type} {l:List α} {k:Nat} {d:α} (h:k < l.length):l.set k (l.getD k d)=l:=by
  apply List.ext_getElem?
  intro i
  rw [List.getElem?_set]
  split
  · next e =>
    subst e
    simp [h]
  · rfl
theorem qW.some {p h n i:Nat} {l:List (List Nat)} (m:qW p h n l) (hi:i < h):l[i]?=some (l.getD i []):=ix [] (by rw [m.len];exact hi)
theorem rd {p h n i j:Nat} {l:List (List Nat)} (m:qW p h n l) (hi:i < h) (hj:j < n):(l.getD i [])[j]?=some ((l.getD i []).getD j 0):=ix 0 (by rw [m.row i hi];exact hj)
theorem qW.setRow {p h n i:Nat} {l:List (List Nat)} {r:List Nat} (m:qW p h n l) (hi:i < h) (hl:r.length=n) (hr:∀ j,j < n→r.getD j 0 < p):qW p h n (l.set i r):=by
  have hil:i < l.length:=by rw [m.len];exact hi
  refine ⟨by rw [List.length_set];exact m.len,fun k hk=>?_,fun k hk j hj=>?_⟩
  · rw [aL hil];split
    · exact hl
    · exact m.row k hk
  · rw [aL hil];split
    · exact hr j hj
    · exact m.lt k hk j hj
section
variable {p:Nat} [NeZero p] {h n:Nat}
/-- the pivot's row is scaled -/
theorem GO (hp:fX p) {l8:List (List Nat)} {l5:List Int} {u:Nat} {e:Int} (m:qW p h n l8) (hr:l5.length < h) (hu:u < p) :
    ∃ l,cV (fun k3 (st:(List (List Nat)))=>kX p l5 (l8.getD l5.length []) (u,e) k3 st) n 0 l8=some l∧qW p h n l∧(∀ i,i < h→i≠l5.length→l.getD i []=l8.getD i [])∧∀ j,j < n→G p l l5.length j=o p u*G p l8 l5.length j:=by
  have hrl:=m.row _ hr
  obtain ⟨l,e,m1,h1,h2,_⟩:=bo (body:=fun k3 (st:(List (List Nat)))=>kX p l5 (l8.getD l5.length []) (u,e) k3 st) (rem:=n) (k:=0) (s:=l8)
    (fun k l=>qW p h n l∧(∀ i,i < h→i≠l5.length→l.getD i []=l8.getD i [])∧(∀ j,j < k→j < n→G p l l5.length j=o p u*G p l8 l5.length j)∧(∀ j,k≤j→(l.getD l5.length []).getD j 0=(l8.getD l5.length []).getD j 0))
    ⟨m,fun _ _ _=>rfl,fun j hj=>by omega,fun _ _=>rfl⟩ (fun k l _ hk ⟨m1,h1,h2,h3⟩=>by
      have hk':k < n:=by omega
      unfold kX
      rw [rd m hr hk',bS,m1.some hr,bS,rd m1 hr hk',bS,jX hp hu (m1.lt _ hr _ hk'),bS,bS,bS]
      have hrl1:=m1.row _ hr
      have hll:l5.length < l.length:=by rw [m1.len];exact hr
      refine ⟨_,rfl,m1.setRow hr (by rw [List.length_set];exact hrl1) (fun j hj=>?_),fun i hi hne=>?_,fun j hj hjn=>?_,fun j hj=>?_⟩
      · rw [aL (by rw [hrl1];exact hk')];split
        · exact Nat.mod_lt _ hp.pos
        · exact m1.lt _ hr _ hj
      · rw [aL hll,if_neg (fun e=>hne e.symm)];exact h1 i hi hne
      · show o p (((l.set _ _).getD l5.length []).getD j 0)=_
        rw [aL hll,if_pos rfl,aL (by rw [hrl1];exact hk')]
        by_cases g:k=j
        · subst g
          rw [if_pos rfl,mf,pW,h3 k (Nat.le_refl k)];rfl
        · rw [if_neg g];exact h2 j (by omega) hjn
      · rw [aL hll,if_pos rfl,aL (by rw [hrl1];exact hk'),if_neg (by omega)];exact h3 j (by omega))
  exact ⟨l,e,m1,h1,fun j hj=>h2 j (by omega) hj⟩
/-- one row is cleared -/
theorem ER (hp:fX p) {l:List (List Nat)} {l5:List Int} {i c:Nat} (m:qW p h n l) (hr:l5.length < h) (hi:i < h) (hne:i≠l5.length) (hc:c < n) :
    ∃ l',cV (fun k5 (st:(List (List Nat)))=>kZ p l5 i (l.getD i []) ((l.getD i []).getD c 0) (l.getD l5.length []) k5 st) n 0 l=some l'∧qW p h n l'∧(∀ k,k < h→k≠i→l'.getD k []=l.getD k [])∧∀ j,j < n→G p l' i j=G p l i j - G p l i c*G p l l5.length j:=by
  have hil:=m.row _ hi
  obtain ⟨l',e,m1,h1,h2,_⟩:=bo (body:=fun k5 (st:(List (List Nat)))=>kZ p l5 i (l.getD i []) ((l.getD i []).getD c 0) (l.getD l5.length []) k5 st) (rem:=n) (k:=0) (s:=l)
    (fun k l'=>qW p h n l'∧(∀ k,k < h→k≠i→l'.getD k []=l.getD k [])∧(∀ j,j < k→j < n→G p l' i j=G p l i j - G p l i c*G p l l5.length j)∧(∀ j,k≤j→(l'.getD i []).getD j 0=(l.getD i []).getD j 0))
    ⟨m,fun _ _ _=>rfl,fun j hj=>by omega,fun _ _=>rfl⟩ (fun k l' _ hk ⟨m1,h1,h2,h3⟩=>by
      have hk':k < n:=by omega
      have hil1:=m1.row _ hi
      have hll:i < l'.length:=by rw [m1.len];exact hi
      unfold kZ
      rw [rd m hr hk',bS,m1.some hr,bS,h1 _ hr (fun e=>hne e.symm),rd m hr hk',bS,rd m hi hk',bS,m1.some hi,bS,rd m1 hi hk',bS,jX hp (m.lt _ hi _ hc) (m.lt _ hr _ hk'),bS,Ah hp (m1.lt _ hi _ hk') (Nat.mod_lt _ hp.pos),bS,bS,bS]
      refine ⟨_,rfl,m1.setRow hi (by rw [List.length_set];exact hil1) (fun j hj=>?_),fun q hq hqi=>?_,fun j hj hjn=>?_,fun j hj=>?_⟩
      · rw [aL (by rw [hil1];exact hk')];split
        · exact Nat.mod_lt _ hp.pos
        · exact m1.lt _ hi _ hj
      · rw [aL hll,if_neg (fun e=>hqi e.symm)];exact h1 q hq hqi
      · show o p (((l'.set _ _).getD i []).getD j 0)=_
        rw [aL hll,if_pos rfl,aL (by rw [hil1];exact hk')]
        by_cases g:k=j
        · subst g
          rw [if_pos rfl,zY (Nat.mod_lt _ hp.pos),mf,pW,h3 k (Nat.le_refl k)];rfl
        · rw [if_neg g];exact h2 j (by omega) hjn
      · rw [aL hll,if_pos rfl,aL (by rw [hil1];exact hk'),if_neg (by omega)];exact h3 j (by omega))
  exact ⟨l',e,m1,h1,fun j hj=>h2 j (by omega) hj⟩
/-- all other rows are cleared -/
theorem GW (hp:fX p) {l:List (List Nat)} {l5:List Int} {c:Nat} (m:qW p h n l) (hr:l5.length < h) (hc:c < n) (hn:n≤1000) :
    ∃ l',cV (fun k4 (st:(List (List Nat)))=>kY p l5 c k4 st) h 0 l=some l'∧qW p h n l'∧(∀ j,j < n→G p l' l5.length j=G p l l5.length j)∧∀ i,i < h→i≠l5.length→∀ j,j < n→G p l' i j=G p l i j - G p l i c*G p l l5.length j:=by
  obtain ⟨l',e,m1,h1,h2,h3⟩:=bo (body:=fun k4 (st:(List (List Nat)))=>kY p l5 c k4 st) (rem:=h) (k:=0) (s:=l)
    (fun k l'=>qW p h n l'∧(l'.getD l5.length []=l.getD l5.length [])∧(∀ i,i < k→i < h→i≠l5.length→∀ j,j < n→G p l' i j=G p l i j - G p l i c*G p l l5.length j)∧(∀ i,k≤i→l'.getD i []=l.getD i []))
    ⟨m,rfl,fun i hi=>by omega,fun _ _=>rfl⟩ (fun k l' _ hk ⟨m1,h1,h2,h3⟩=>by
      have hk':k < h:=by omega
      unfold kY
      rw [m1.some hk',bS]
      by_cases g:k=l5.length
      · rw [eT (by omega),cT,bS,cT]
        refine ⟨_,rfl,m1,h1,fun i hi hih hne j hj=>h2 i (by omega) hih hne j hj,fun i hi=>h3 i (by omega)⟩
      · rw [eF (by omega),cF,rd m1 hk' hc,bS,bS]
        by_cases g2:(l'.getD k []).getD c 0=0
        · rw [eT (by omega),cT]
          refine ⟨_,rfl,m1,h1,fun i hi hih hne j hj=>?_,fun i hi=>h3 i (by omega)⟩
          by_cases e:i=k
          · subst e
            have z:G p l i c=0:=by
              show o p ((l.getD i []).getD c 0)=0
              rw [← h3 i (Nat.le_refl i),g2,lk]
            have y:G p l' i j=G p l i j:=by
              show o p ((l'.getD i []).getD j 0)=o p ((l.getD i []).getD j 0)
              rw [h3 i (Nat.le_refl i)]
            rw [z,y];grind
          · exact h2 i (by omega) hih hne j hj
        · rw [eF (by omega),cF,bS,m1.some hr,bS,m1.row _ hr,bT (by omega),bS]
          obtain ⟨l2,e2,m2,k1,k2⟩:=ER hp (l5:=l5) (i:=k) (c:=c) m1 hr hk' g hc
          rw [Nat.sub_zero,e2,bS]
          refine ⟨_,rfl,m2,?_,fun i hi hih hne j hj=>?_,fun i hi=>?_⟩
          · rw [k1 _ hr (fun e=>g e.symm)];exact h1
          · by_cases e:i=k
            · subst e
              rw [k2 j hj]
              have y:∀ q,G p l' i q=G p l i q:=fun q=>by
                show o p ((l'.getD i []).getD q 0)=o p ((l.getD i []).getD q 0)
                rw [h3 i (Nat.le_refl i)]
              have y2:G p l' l5.length j=G p l l5.length j:=by
                show o p ((l'.getD l5.length []).getD j 0)=o p ((l.getD l5.length []).getD j 0)
                rw [h1]
              rw [y,y,y2]
            · have:=h2 i (by omega) hih hne j hj
              rw [← this]
              show o p ((l2.getD i []).getD j 0)=o p ((l'.getD i []).getD j 0)
              rw [k1 i hih e]
          · by_cases hih:i < h
            · rw [k1 i hih (by omega)];exact h3 i (by omega)
            · have a1:l2.length≤i:=by rw [m2.len];omega
              have a2:l.length≤i:=by rw [m.len];omega
              rw [List.getD_eq_getElem?_getD,List.getElem?_eq_none a1,List.getD_eq_getElem?_getD,List.getElem?_eq_none a2])
  exact ⟨l',e,m1,fun j hj=>by show o p ((l'.getD l5.length []).getD j 0)=o p ((l.getD l5.length []).getD j 0);rw [h1],fun i hi hne j hj=>h2 i (by omega) hi hne j hj⟩
end
/-- the search for a pivot -/
theorem find_ok {p h n:Nat} {l:List (List Nat)} {r c:Nat} (m:qW p h n l) (hr:r≤h) (hc:c < n) (hh:h≤1000) :
    ∃ x,vj (fun (st:Int × Int)=>gZ l c st.1 st.2) big ((-1),((r:Nat):Int))=some x∧((x = -1∧∀ i,r≤i→i < h→(l.getD i []).getD c 0=0) ∨ ∃ a:Nat,x=a∧r≤a∧a < h∧(l.getD a []).getD c 0≠0):=by
  obtain ⟨x,e,hx⟩:=ny (step:=fun (st:Int × Int)=>gZ l c st.1 st.2)
    (fun st=>∃ k:Nat,st.2=k∧k≤h∧((st.1 = -1∧r≤k∧∀ i,r≤i→i < k→(l.getD i []).getD c 0=0) ∨ ∃ a:Nat,st.1=a∧r≤a∧a < h∧(l.getD a []).getD c 0≠0))
    (fun x=>(x = -1∧∀ i,r≤i→i < h→(l.getD i []).getD c 0=0) ∨ ∃ a:Nat,x=a∧r≤a∧a < h∧(l.getD a []).getD c 0≠0)
    (fun st=>h - st.2.toNat) (fun st ⟨k,h1,h2,h3⟩=>by
      obtain ⟨x6,x7⟩:=st
      simp only at h1 h3
      subst h1
      unfold gZ
      rw [m.len]
      by_cases c1:k < h
      · rw [dT (by omega),cT]
        rcases h3 with ⟨rfl,g1,g2⟩ | ⟨a,rfl,g⟩
        · rw [dT (by omega),bS,cT,aX [] (by omega) (by rw [m.len];omega),bS]
          simp only [Int.toNat_natCast]
          rw [rd m c1 hc,bS]
          by_cases z:(l.getD k []).getD c 0=0
          · rw [qF (by omega),cF,bk (by omega) (by omega),bS]
            refine ⟨_,rfl,⟨k+1,rfl,by omega,.inl ⟨rfl,by omega,fun i hi1 hi2=>?_⟩⟩,by show h - ((k:Int)+1).toNat < h - ((k:Int)).toNat;omega⟩
            by_cases e:i=k
            · subst e;exact z
            · exact g2 i hi1 (by omega)
          · rw [qT (by omega),cT,bk (by omega) (by omega),bS]
            exact ⟨_,rfl,⟨k+1,rfl,by omega,.inr ⟨k,rfl,g1,c1,z⟩⟩,by show h - ((k:Int)+1).toNat < h - ((k:Int)).toNat;omega⟩
        · rw [dF (by omega),bS,cF]
          exact ⟨_,rfl,.inr ⟨a,rfl,g⟩⟩
      · rw [dF (by omega),cF,bS,cF]
        refine ⟨_,rfl,?_⟩
        rcases h3 with ⟨rfl,g1,g2⟩ | g
        · exact .inl ⟨rfl,fun i hi1 hi2=>g2 i hi1 (by omega)⟩
        · exact .inr g) (s:=((-1),((r:Nat):Int))) ⟨r,rfl,hr,.inl ⟨rfl,Nat.le_refl r,fun i a b=>by omega⟩⟩ (by show h - _ < _;omega)
  exact ⟨x,e,hx⟩
section
variable {p:Nat} [NeZero p] {h n:Nat}
def pv (l5:List Int) (r:Nat):Nat:=(l5.getD r 0).toNat
/-- one column -/
theorem ET (hp:fX p) {M0:Nat→Nat→Fin p} {l4:List (List Nat)} {l5:List Int} {c x3 W:Nat} (hW:n < W) (hW9:W≤1000) (m:qW p h W l4) (hc:c < n) (hn:n≤900) (hh:h≤900) (h5:l5.length≤h) (hx:x3 < p)
    (h0:∀ r,r < l5.length→l5.getD r 0=((pv l5 r:Nat):Int)) (red:vG h n M0 (G p l4) l5.length (pv l5) c) :
    ∃ l l' x,gY p c l4 l5 x3=some (l,l',x)∧qW p h W l∧l'.length≤h∧x < p∧(∀ r,r < l'.length→l'.getD r 0=((pv l' r:Nat):Int))∧vG h n M0 (G p l) l'.length (pv l') (c+1):=by
  unfold gY
  obtain ⟨x9,e9,hx9⟩:=find_ok (c:=c) m h5 (by omega) (by omega)
  rw [e9,bS]
  rcases hx9 with ⟨rfl,hz⟩ | ⟨a,rfl,a1,a2,a3⟩
  · rw [dT (by omega),cT]
    exact ⟨_,_,_,rfl,m,h5,hx,h0,red.skip hc fun i hi1 hi2=>by show o p _=0;rw [hz i hi1 hi2,lk]⟩
  · rw [dF (by omega),cF]
    have hr:l5.length < h:=by omega
    -- the rows as they stand behind the swap
    obtain ⟨l8,x15,e8,m8,hx15,r8⟩:∃ l8 x15,(bif ((a:Nat):Int) != ((l5.length:Nat):Int) then
        l4[l5.length]? >>= fun x16 =>
        gM l4 ((a:Nat):Int) >>= fun x17 =>
        some ((l4.set ((a:Nat):Int).toNat x16).set l5.length x17) >>= fun l9 =>
        mc p x3 >>= fun r6 =>
        some (l9,r6)
      else
        some (l4,x3))=some (l8,x15)∧qW p h W l8∧x15 < p∧∀ i,i < h→l8.getD i []=if i=l5.length then l4.getD a [] else if i=a then l4.getD l5.length [] else l4.getD i []:=by
      by_cases e:a=l5.length
      · rw [qF (by omega),cF]
        refine ⟨_,_,rfl,m,hx,fun i hi=>?_⟩
        subst e
        by_cases g:i=l5.length
        · rw [if_pos g,g]
        · rw [if_neg g,if_neg g]
      · rw [qT (by omega),cT,m.some hr,bS,aX [] (by omega) (by rw [m.len];omega),bS,bS,Cl hp hx,bS]
        simp only [Int.toNat_natCast]
        have m1:=m.setRow (i:=a) a2 (m.row _ hr) (m.lt _ hr)
        have m2:=m1.setRow (i:=l5.length) hr (m.row _ a2) (m.lt _ a2)
        refine ⟨_,_,rfl,m2,Nat.mod_lt _ hp.pos,fun i hi=>?_⟩
        rw [aL (by rw [List.length_set,m.len];exact hr),aL (by rw [m.len];exact a2)]
        by_cases g:i=l5.length
        · rw [if_pos g.symm,if_pos g]
        · rw [if_neg (fun e=>g e.symm),if_neg g]
          by_cases g2:i=a
          · rw [if_pos g2.symm,if_pos g2]
          · rw [if_neg (fun e=>g2 e.symm),if_neg g2]
    rw [e8,bS]
    simp only
    have hcn:c < W:=by omega
    have hgc:(l8.getD l5.length []).getD c 0=(l4.getD a []).getD c 0:=by rw [r8 _ hr,if_pos rfl]
    have hlt:(l4.getD a []).getD c 0 < p:=m.lt _ a2 _ hcn
    rw [m8.some hr,bS,rd m8 hr hcn,bS,hgc,jX hp hx15 hlt,bS,FL hp hlt a3,bS,m8.row _ hr,bT (by omega),bS,Nat.sub_zero]
    obtain ⟨l11,e11,m11,s1,s2⟩:=GO (e:=0) hp (l5:=l5) m8 hr (LZ (a:=(l4.getD a []).getD c 0) (b:=p - 2) hp)
    rw [e11,bS,m11.len,Nat.sub_zero]
    obtain ⟨l15,e15,m15,t1,t2⟩:=GW hp (l5:=l5) m11 hr hcn (by omega)
    rw [e15,bS,aM (by simp;omega) (by simp;omega),bS]
    have hpv:∀ r,r < l5.length→pv (l5++[((c:Nat):Int)]) r=pv l5 r:=fun r hr=>by
      unfold pv;rw [List.getD_eq_getElem?_getD,List.getElem?_append_left hr,← List.getD_eq_getElem?_getD]
    have hpc:pv (l5++[((c:Nat):Int)]) l5.length=c:=by unfold pv;simp
    refine ⟨_,_,_,rfl,m15,by simp;omega,Nat.mod_lt _ hp.pos,fun r hr2=>?_,?_⟩
    · simp only [List.length_append,List.length_cons,List.length_nil] at hr2
      by_cases g:r=l5.length
      · subst g;rw [hpc];simp
      · rw [hpv r (by omega),← h0 r (by omega)]
        rw [List.getD_eq_getElem?_getD,List.getElem?_append_left (by omega),← List.getD_eq_getElem?_getD]
    · have red2:vG h n M0 (G p l4) l5.length (pv (l5++[((c:Nat):Int)])) c :=
        ⟨red.sol,red.len,fun s hs=>by rw [hpv s hs];exact red.lt s hs,red.cn,fun s hs i hi=>by rw [hpv s hs];exact red.unit s hs i hi,red.low⟩
      have G8:∀ i,i < h→∀ j,G p l8 i j=if i=l5.length then G p l4 a j else if i=a then G p l4 l5.length j else G p l4 i j:=fun i hi j=>by
        show o p ((l8.getD i []).getD j 0)=_
        rw [r8 i hi]
        split
        · rfl
        · split <;> rfl
      have G11:∀ i,i < h→i≠l5.length→∀ j,G p l11 i j=G p l8 i j:=fun i hi hne j=>by
        show o p ((l11.getD i []).getD j 0)=o p ((l8.getD i []).getD j 0)
        rw [s1 i hi hne]
      have red3:=red2.pivot hc hp.one a1 a2 (u:=o p (JF p ((l4.getD a []).getD c 0) (p - 2))) (M':=G p l15)
        (hp.oinv (by rw [Nat.mod_eq_of_lt hlt];exact a3)) hpc
        (fun j hj=>by rw [t1 j (by omega),s2 j (by omega),G8 _ hr,if_pos rfl])
        (fun i hi hne j hj=>by
          rw [t2 i hi hne j (by omega),t1 j (by omega),G11 i hi hne,G11 i hi hne,G8 i hi,G8 i hi,if_neg hne,if_neg hne]
          )
      rw [List.length_append]
      exact red3
/-- all columns -/
theorem GE (hp:fX p) {l:List (List Nat)} {W:Nat} (hW:n < W) (hW9:W≤1000) (m:qW p h W l) (hn:n≤900) (hh:h≤900) :
    ∃ w,lD p l ((n:Nat):Int)=some w∧qW p h W w.zm∧w.zpivot.length≤h∧(∀ r,r < w.zpivot.length→w.zpivot.getD r 0=((pv w.zpivot r:Nat):Int))∧vG h n (G p l) (G p w.zm) w.zpivot.length (pv w.zpivot) n:=by
  unfold lD
  rw [ri (by rw [m.len];omega),bS,m.len,bT (by omega),bS,Nat.sub_zero]
  obtain ⟨l2,e2,h2⟩:=bo (body:=fun k1 (st:(List (List Nat)))=>ng k1 st) (rem:=h) (k:=0) (s:=l) (fun _ l'=>l'=l) rfl (fun k l' _ hk he=>by
    subst he
    unfold ng
    rw [m.some (by omega),bS,xB (by rw [m.row _ (by omega)];omega),bS,bS]
    exact ⟨_,rfl,qR (by rw [m.len];omega)⟩)
  subst h2
  rw [e2,bS]
  have hmx:max 0 ((n:Nat):Int).toNat=n:=by simp
  rw [hmx,bT (by omega),bS,Nat.sub_zero]
  obtain ⟨st,e,h1,h2,h3,h4,h5⟩:=bo (body:=fun k2 (st:(List (List Nat)) × (List Int) × Nat)=>gY p k2 st.1 st.2.1 st.2.2) (rem:=n) (k:=0) (s:=(l2,([]:List Int),1))
    (fun c st=>qW p h W st.1∧st.2.1.length≤h∧st.2.2 < p∧(∀ r,r < st.2.1.length→st.2.1.getD r 0=((pv st.2.1 r:Nat):Int))∧vG h n (G p l2) (G p st.1) st.2.1.length (pv st.2.1) c)
    ⟨m,by simp,by have:=hp.lt;show 1 < p;omega,fun r hr=>by simp at hr,vG.start⟩ (fun c st _ hc ⟨h1,h2,h3,h4,h5⟩=>by
      obtain ⟨l,l',x,e,k1,k2,k3,k4,k5⟩:=ET hp hW hW9 h1 (by omega) hn hh h2 h3 h4 h5
      exact ⟨_,e,k1,k2,k3,k4,k5⟩)
  rw [e,bS]
  rw [Nat.zero_add] at h5
  exact ⟨_,rfl,h1,h2,h4,h5⟩
theorem Cp (hp:fX p) {l:List (List Nat)} (m:qW p h (n+1) l) (hn:n≤900) (hh:h≤900) :
    ∃ w,lD p l ((n:Nat):Int)=some w∧qW p h (n+1) w.zm∧w.zpivot.length≤h∧(∀ r,r < w.zpivot.length→w.zpivot.getD r 0=((pv w.zpivot r:Nat):Int))∧vG h n (G p l) (G p w.zm) w.zpivot.length (pv w.zpivot) n:=GE hp (Nat.lt_succ_self n) (by omega) m hn hh
end
end Pu

/- Plain laws of solving linear equations. -/
set_option linter.unusedVariables false
namespace Pu
open Gw Gl Sp Lean.Grind
theorem cy {α:Type} {a b:List α} {i:Nat} {d:α} (h:i < a.length):(a++b).getD i d=a.getD i d:=by
  rw [List.getD_eq_getElem?_getD,List.getElem?_append_left h,← List.getD_eq_getElem?_getD]
theorem c9 {α:Type} {a:List α} {x d:α} {i:Nat} (h:i=a.length):(a++[x]).getD i d=x:=by
  subst h;simp [List.getD_eq_getElem?_getD]
theorem JJ {p h n:Nat} {m:List (List Nat)} (hm:qW p h n m) (h0:0 < h):qt m=some true:=by
  unfold qt cQ cZ
  rw [hm.len,Nat.sub_zero]
  obtain ⟨o,e,ho⟩:=iq (body:=fun k1 (st:Unit)=>cR m m k1) (fun _ _=>True) (fun _=>False) (rem:=h) (k:=0) (s:=()) trivial (fun k _ _ hk _=>by
    unfold cR qO
    rw [hm.some (show k < h by omega),bS,hm.some h0,bS,bS,hm.row _ (by omega),hm.row _ h0,qF rfl,cF]
    exact ⟨_,rfl,trivial⟩)
  rw [e]
  cases o with
  | fin r=>exact ho.elim
  | go s=>rw [bS,oG,bS,dF (by omega),bS,nF]
theorem HM {p h n:Nat} {m:List (List Nat)} (hm:qW p h n m) (h0:0 < h):qs m=some ((n:Nat):Int):=by
  unfold qs
  rw [hm.len,eF (by omega),cF,hm.some h0,bS,hm.row _ h0]
section
variable {p:Nat} [NeZero p] {h n:Nat}
theorem Ka {m:List (List Nat)} {b:List Nat} (hm:qW p h n m) (hb:b.length=h) (hbp:∀ i,i < h→b.getD i 0 < p) (hn:n≤900) (hh:h≤900) :
    ∃ l,cV (fun k1 (st:(List (List Nat)))=>lM m b k1 st) h 0 ([]:List (List Nat))=some l∧qW p h (n+1) l∧(∀ i,i < h→∀ j,j < n→G p l i j=G p m i j)∧∀ i,i < h→G p l i n=o p (b.getD i 0):=by
  obtain ⟨l,e,h1,h2⟩:=bo (body:=fun k1 (st:(List (List Nat)))=>lM m b k1 st) (rem:=h) (k:=0) (s:=([]:List (List Nat)))
    (fun k l=>l.length=k∧∀ i,i < k→l.getD i []=m.getD i []++[b.getD i 0]) ⟨rfl,fun i hi=>by omega⟩ (fun k l _ hk ⟨h1,h2⟩=>by
      have hk':k < h:=by omega
      unfold lM
      rw [hm.some hk',bS,xB (by rw [hm.row _ hk'];omega),bS,ix 0 (by omega),bS,aM (by rw [hm.row _ hk'];simp;omega) (by rw [hm.row _ hk'];simp;omega),bS,aM (by simp;omega) (by simp;omega),bS]
      refine ⟨_,rfl,by simp [h1],fun i hi=>?_⟩
      by_cases g:i=k
      · subst g;exact c9 h1.symm
      · rw [cy (by omega)];exact h2 i (by omega))
  rw [Nat.zero_add] at h1 h2
  have hr:∀ i,i < h→∀ j,(l.getD i []).getD j 0=if j < n then (m.getD i []).getD j 0 else if j=n then b.getD i 0 else (l.getD i []).getD j 0:=fun i hi j=>by
    have hl:=hm.row _ hi
    split
    · next g=>rw [h2 i hi,cy (by omega)]
    · split
      · next g=>rw [h2 i hi,c9 (by omega)]
      · rfl
  refine ⟨l,e,⟨h1,fun i hi=>by rw [h2 i hi,List.length_append,hm.row _ hi];rfl,fun i hi j hj=>?_⟩,fun i hi j hj=>?_,fun i hi=>?_⟩
  · rw [hr i hi]
    by_cases g:j < n
    · rw [if_pos g];exact hm.lt i hi j g
    · rw [if_neg g,if_pos (by omega)];exact hbp i hi
  · show o p _=o p _;rw [hr i hi,if_pos hj]
  · show o p _=o p _;rw [hr i hi,if_neg (by omega),if_pos rfl]
theorem GT (hp:fX p) {m:List (List Nat)} {b:List Nat} (hm:qW p h n m) (h0:0 < h) (hb:b.length=h) (hbp:∀ i,i < h→b.getD i 0 < p) (hn:n≤900) (hh:h≤900) {M:Nat→Nat→Fin p} (hM:∀ i,i < h→∀ j,j < n→M i j=G p m i j) (hMb:∀ i,i < h→M i n=o p (b.getD i 0)) :
    ∃ v e,pg p m b=some (v,e)∧((e=0∧v.length=n∧(∀ j,j < n→v.getD j 0 < p)∧Kg h n M (fun j=>o p (v.getD j 0))) ∨ (e=6∧∀ v,¬ Kg h n M v)):=by
  unfold pg
  rw [JJ hm h0,bS,nT,cF,hm.len,hb,qF rfl,bS,cF,HM hm h0,bS,Nat.sub_zero]
  obtain ⟨l,e1,w1,w2,w3⟩:=Ka hm hb hbp hn hh
  rw [e1,bS]
  obtain ⟨w,e2,m2,k2,p2,red⟩:=Cp hp w1 hn hh
  have red':vG h n M (G p w.zm) w.zpivot.length (pv w.zpivot) n:=by
    refine ⟨fun v=>?_,red.len,red.lt,red.cn,red.unit,red.low⟩
    rw [← red.sol]
    constructor
    · intro g i hi
      rw [w3 i hi,← hMb i hi,← g i hi]
      exact pp fun j hj=>by rw [w2 i hi j hj,hM i hi j hj]
    · intro g i hi
      rw [hMb i hi,← w3 i hi,← g i hi]
      exact pp fun j hj=>by rw [w2 i hi j hj,hM i hi j hj]
  rw [e2,bS,m2.len,eu (by omega) (by omega) (by rw [m2.len];omega),bS]
  simp only [Int.toNat_natCast]
  have hl5:((w.zm.drop w.zpivot.length).take (h - w.zpivot.length)).length=h - w.zpivot.length:=by rw [List.length_take,List.length_drop,m2.len];omega
  have h5g:∀ i,i < h - w.zpivot.length→((w.zm.drop w.zpivot.length).take (h - w.zpivot.length))[i]?=some (w.zm.getD (w.zpivot.length+i) []):=fun i hi=>by
    rw [List.getElem?_take,if_pos hi,List.getElem?_drop]
    exact m2.some (by omega)
  rw [hl5,Nat.sub_zero]
  generalize (w.zm.drop w.zpivot.length).take (h - w.zpivot.length)=l5 at *
  obtain ⟨o1,e3,ho⟩:=iq (body:=fun k2 (st:Unit)=>oP ((n:Nat):Int) l5 k2) (fun k _=>∀ i,w.zpivot.length≤i→i < w.zpivot.length+k→G p w.zm i n=0) (fun r=>r=(([]:List Nat),((6:Nat):Int))∧∃ i,w.zpivot.length≤i∧i < h∧G p w.zm i n≠0) (rem:=h - w.zpivot.length) (k:=0) (s:=()) (fun i h1 h2=>by omega) (fun k _ _ hk hi=>by
    unfold oP
    have hkh:w.zpivot.length+k < h:=by omega
    rw [h5g k (by omega),bS,aX 0 (by omega) (by rw [m2.row _ hkh];omega),bS]
    simp only [Int.toNat_natCast]
    by_cases z:(w.zm.getD (w.zpivot.length+k) []).getD n 0=0
    · rw [qF (by omega),cF]
      refine ⟨_,rfl,fun i h1 h2=>?_⟩
      by_cases g:i=w.zpivot.length+k
      · subst g;show o p _=0;rw [z,lk]
      · exact hi i h1 (by omega)
    · rw [qT (by omega),cT]
      refine ⟨_,rfl,rfl,w.zpivot.length+k,by omega,hkh,fun e=>z ?_⟩
      have hlt:=m2.lt _ hkh n (by omega)
      have:o p ((w.zm.getD (w.zpivot.length+k) []).getD n 0)=0:=e
      rw [wD,Nat.mod_eq_of_lt hlt] at this
      exact this)
  rw [e3,bS]
  cases o1 with
  | fin r =>
    obtain ⟨hr,i,h1,h2,h3⟩:=ho
    rw [oF,hr]
    exact ⟨_,_,rfl,.inr ⟨rfl,fun v hv=>h3 (red'.rest hv h1 h2)⟩⟩
  | go s =>
    have hz:∀ i,w.zpivot.length≤i→i < h→G p w.zm i n=0:=fun i h1 h2=>ho i h1 (by omega)
    rw [oG,ck (by omega) (by omega) (by omega) (by omega),bS,Nat.sub_zero]
    simp only [Int.toNat_natCast]
    obtain ⟨v,e4,v1,v2,v3⟩:=bo (body:=fun k3 (st:(List Nat))=>oQ ((n:Nat):Int) w k3 st) (rem:=w.zpivot.length) (k:=0) (s:=List.replicate n 0)
      (fun s v=>v.length=n∧(∀ j,j < n→v.getD j 0 < p)∧Read n (G p w.zm) (pv w.zpivot) s (fun j=>o p (v.getD j 0))) ⟨by simp,fun j hj=>by simp [List.getD_eq_getElem?_getD,hj];exact hp.pos,fun j hj _=>by simp [List.getD_eq_getElem?_getD,hj,lk],fun r hr=>by omega⟩ (fun k v _ hk ⟨v1,v2,v3⟩=>by
        have hk':k < w.zpivot.length:=by omega
        have hkh:k < h:=by omega
        have hpn:pv w.zpivot k < n:=red.lt k hk'
        unfold oQ
        rw [ix 0 hk',bS,m2.some hkh,bS,aX 0 (by omega) (by rw [m2.row _ hkh];omega),bS,p2 k hk',aX 0 (by omega) (by rw [v1];omega),bS,bS]
        simp only [Int.toNat_natCast]
        refine ⟨_,rfl,by rw [List.length_set];exact v1,fun j hj=>?_,fun j hj hne=>?_,fun r hr=>?_⟩
        · rw [aL (by rw [v1];exact hpn)];split
          · exact m2.lt _ hkh n (by omega)
          · exact v2 j hj
        · show o p _=0
          rw [aL (by rw [v1];exact hpn),if_neg (hne k (by omega))]
          exact v3.1 j hj fun r hr=>hne r (by omega)
        · show o p _=o p _
          rw [aL (by rw [v1];exact hpn)]
          by_cases g:r=k
          · subst g;rw [if_pos rfl]
          · rw [if_neg (fun e=>g (red.distinct hp.one (by omega) hk' e.symm))]
            exact v3.2 r (by omega))
    rw [e4,bS]
    rw [Nat.zero_add] at v3
    exact ⟨_,_,rfl,.inl ⟨rfl,v1,v2,red'.solved hp.one v3 hz⟩⟩
end
end Pu

/- Plain laws of polynomials. -/
set_option linter.unusedVariables false
namespace Pu
open Gw Gl Sp Lean.Grind
def Lt (p:Nat) (l:List Nat):Prop:=∀ i,i < l.length→l.getD i 0 < p
theorem Lt.get {p:Nat} {l:List Nat} (hp:0 < p) (h:Lt p l) (i:Nat):l.getD i 0 < p:=by
  by_cases g:i < l.length
  · exact h i g
  · rw [List.getD_eq_getElem?_getD,List.getElem?_eq_none (by omega)];exact hp
theorem mz {α:Type} {l:List α} {i:Nat} {d:α} (h:l.length≤i):l.getD i d=d:=by
  rw [List.getD_eq_getElem?_getD,List.getElem?_eq_none h];rfl
/-- the degree -/
theorem yC {f:List Nat} (h:f.length≤1000):∃ k:Nat,k≤f.length∧mg f=some ((k:Int) - 1)∧(∀ i,k≤i→f.getD i 0=0)∧(k=0 ∨ f.getD (k - 1) 0≠0):=by
  unfold mg
  rw [cD (by omega) (by omega),bS]
  obtain ⟨o,e,ho⟩:=ny (step:=fun (st:Int)=>pX f st) (fun st=>∃ k:Nat,st=(k:Int) - 1∧k≤f.length∧∀ i,k≤i→f.getD i 0=0)
    (fun (o:Int ⊕ Unit)=>∃ k:Nat,k≤f.length∧(∀ i,k≤i→f.getD i 0=0)∧((o=.inr ()∧k=0) ∨ (o=.inl ((k:Int) - 1)∧0 < k∧f.getD (k - 1) 0≠0))) (fun st=>(st+1).toNat) (fun st ⟨k,h1,h2,h3⟩=>by
      subst h1
      unfold pX
      by_cases g:k=0
      · subst g
        rw [dF (by omega),cF]
        exact ⟨_,rfl,0,by omega,h3,.inl ⟨rfl,rfl⟩⟩
      · rw [dT (by omega),cT,aX 0 (by omega) (by omega),bS]
        have e1:((k:Int) - 1).toNat=k - 1:=by omega
        rw [e1]
        by_cases z:f.getD (k - 1) 0=0
        · rw [qF (by omega),cF,cD (by omega) (by omega),bS]
          refine ⟨_,rfl,⟨k - 1,by omega,by omega,fun i hi=>?_⟩,by omega⟩
          by_cases e:i=k - 1
          · subst e;exact z
          · exact h3 i (by omega)
        · rw [qT (by omega),cT]
          exact ⟨_,rfl,k,h2,h3,.inr ⟨rfl,by omega,z⟩⟩)
    (s:=((f.length:Nat):Int) - 1) ⟨f.length,rfl,Nat.le_refl _,fun i hi=>mz hi⟩ (by omega)
  rw [e,bS]
  obtain ⟨k,h1,h2,⟨rfl,rfl⟩ | ⟨rfl,h3,h4⟩⟩:=ho
  · exact ⟨0,by omega,by rw [Qp];rfl,h2,.inl rfl⟩
  · exact ⟨k,h1,by rw [Qo],h2,.inr h4⟩
/-- without zeros at the end -/
theorem vv {f:List Nat} (h:f.length≤1000):∃ t:List Nat,iH f=some t∧t.length≤f.length∧(∀ i,t.getD i 0=f.getD i 0)∧(t=[] ∨ t.getD (t.length - 1) 0≠0):=by
  obtain ⟨k,h1,h2,h3,h4⟩:=yC h
  unfold iH
  have e0:(k:Int) - 1+1=(k:Int):=by omega
  rw [h2,bS,bk (by omega) (by omega),bS,e0,eu (by omega) (by omega) (by omega),bS]
  have e1:List.take (((k:Int)).toNat - (0:Int).toNat) (List.drop ((0:Int).toNat) f)=f.take k:=by simp
  rw [e1,aM (by simp;omega) (by simp;omega),bS,List.nil_append]
  have hl:(f.take k).length=k:=by simp;omega
  have hg:∀ i,(f.take k).getD i 0=f.getD i 0:=fun i=>by
    by_cases g:i < k
    · rw [List.getD_eq_getElem?_getD,List.getElem?_take,if_pos g,← List.getD_eq_getElem?_getD]
    · rw [mz (by omega),h3 i (by omega)]
  refine ⟨_,rfl,by omega,hg,?_⟩
  rcases h4 with rfl | h4
  · left;simp
  · right;rw [hl,hg];exact h4
section
variable {p:Nat} [NeZero p]
def P (p:Nat) [NeZero p] (f:List Nat):List (Fin p):=f.map (o p)
theorem mS (f:List Nat):(P p f).length=f.length:=by simp [P]
theorem pa (f:List Nat) (i:Nat):cf (P p f) i=o p (f.getD i 0):=by
  unfold cf P
  rw [List.getD_eq_getElem?_getD,List.getElem?_map,List.getD_eq_getElem?_getD]
  cases f[i]? with
  | none=>exact lk.symm
  | some x=>rfl
theorem uV {f g:List Nat} (h:∀ i,f.getD i 0=g.getD i 0) (x:Fin p):cc (P p f) x=cc (P p g) x:=kU (fun i=>by rw [pa,pa,h i]) x
theorem zH (hp:fX p) {f:List Nat} {x:Nat} (hf:Lt p f) (hx:x < p) (h:f.length≤1000):∃ y,iG p f x=some y∧y < p∧o p y=cc (P p f) (o p x):=by
  have hl:=hp.lt
  unfold iG
  rw [cD (by omega) (by omega),bS]
  obtain ⟨r,e,h1,h2⟩:=ny (step:=fun (st:Nat × Int)=>mC p f x st.1 st.2) (fun st=>∃ k:Nat,st.2=(k:Int) - 1∧k≤f.length∧st.1 < p∧o p st.1=cc (P p (f.drop k)) (o p x))
    (fun r=>r < p∧o p r=cc (P p f) (o p x)) (fun st=>(st.2+1).toNat) (fun st ⟨k,h1,h2,h3,h4⟩=>by
      obtain ⟨a,z⟩:=st
      simp only at h1 h3 h4
      subst h1
      unfold mC
      by_cases g:k=0
      · subst g
        rw [dF (by omega),cF]
        exact ⟨_,rfl,h3,h4⟩
      · have e1:((k:Int) - 1).toNat=k - 1:=by omega
        have hm:=Nat.mod_lt (a*x) hp.pos
        have hfk:=hf (k - 1) (by omega)
        rw [dT (by omega),cT,jX hp h3 hx,bS,aX 0 (by omega) (by omega),bS,e1,vI hp (by omega),bS,cD (by omega) (by omega),bS]
        refine ⟨_,rfl,⟨k - 1,by show (k:Int) - 1 - 1=_;omega,by omega,Nat.mod_lt _ hp.pos,?_⟩,by show ((k:Int) - 1 - 1+1).toNat < ((k:Int) - 1+1).toNat;omega⟩
        show o p _=_
        have ed:f.drop (k - 1)=f.getD (k - 1) 0 :: f.drop k:=by
          rw [List.drop_eq_getElem_cons (show k - 1 < f.length by omega),show k - 1+1=k by omega,List.getD_eq_getElem?_getD,List.getElem?_eq_getElem (by omega)];rfl
        rw [ed,mf,yK,mf,pW,h4]
        show _=o p _+o p x*cc (P p (f.drop k)) (o p x)
        grind)
    (s:=(0,((f.length:Nat):Int) - 1)) ⟨f.length,rfl,Nat.le_refl _,hp.pos,by
      show o p 0=_
      rw [List.drop_length,lk];rfl⟩ (by show ((f.length:Int) - 1+1).toNat < _;omega)
  rw [e,bS]
  exact ⟨r,rfl,h1,h2⟩
/-- one step of the division, coefficient by coefficient -/
theorem Em {l l' b:List Nat} {k at_:Nat} (h1:∀ j,j < at_→o p (l'.getD j 0)=o p (l.getD j 0)) (h2:∀ j,o p (l'.getD (at_+j) 0)=o p (l.getD (at_+j) 0) - o p k*o p (b.getD j 0)) (x:Fin p) :
    cc (P p l') x=cc (P p l) x - o p k*x ^ at_*cc (P p b) x:=by
  have e:∀ i,cf (P p l') i=cf (wh (P p l) (List.replicate at_ (0:Fin p)++wn (o p k) (P p b))) i:=fun i=>by
    rw [va,pa,pa]
    by_cases g:i < at_
    · have:cf (List.replicate at_ (0:Fin p)++wn (o p k) (P p b)) i=0:=by
        unfold cf;rw [cy (by simpa using g)];simp [List.getD_eq_getElem?_getD,g]
      rw [this,h1 i g];grind
    · obtain ⟨j,rfl⟩:∃ j,i=at_+j:=⟨i - at_,by omega⟩
      have:cf (List.replicate at_ (0:Fin p)++wn (o p k) (P p b)) (at_+j)=o p k*o p (b.getD j 0):=by
        rw [← pa,← qn];unfold cf
        rw [List.getD_eq_getElem?_getD,List.getElem?_append_right (by simp),List.length_replicate,Nat.add_sub_cancel_left,← List.getD_eq_getElem?_getD]
      rw [this,h2 j]
  rw [kU e,pQ,uL,rm,List.length_replicate]
  have z:cc (List.replicate at_ (0:Fin p)) x=0:=rW (fun i=>by unfold cf;by_cases g:i < at_ <;> simp [List.getD_eq_getElem?_getD,g]) x
  rw [z];grind
theorem Dy {l:List Nat} {k at_:Nat} (hl:at_ < l.length) (h0:l.getD at_ 0=0) (x:Fin p):cc (P p (l.set at_ k)) x=cc (P p l) x+o p k*x ^ at_:=by
  have e:∀ i,cf (P p (l.set at_ k)) i=cf (nN (P p l) (List.replicate at_ (0:Fin p)++[o p k])) i:=fun i=>by
    rw [rV,pa,pa,aL hl]
    by_cases g:at_=i
    · subst g
      rw [if_pos rfl,h0,lk]
      have:cf (List.replicate at_ (0:Fin p)++[o p k]) at_=o p k:=by unfold cf;exact c9 (by simp)
      rw [this];grind
    · rw [if_neg g]
      have:cf (List.replicate at_ (0:Fin p)++[o p k]) i=0:=by
        unfold cf
        by_cases g2:i < at_
        · rw [cy (by simpa using g2)];simp [List.getD_eq_getElem?_getD,g2]
        · rw [mz (by simp;omega)]
      rw [this];grind
  rw [kU e,tr,uL,List.length_replicate]
  have z:cc (List.replicate at_ (0:Fin p)) x=0:=rW (fun i=>by unfold cf;by_cases g:i < at_ <;> simp [List.getD_eq_getElem?_getD,g]) x
  rw [z];simp only [cc];grind
end
theorem vF {p:Nat} {l:List Nat} {i v:Nat} (h:Lt p l) (hv:v < p):Lt p (l.set i v):=fun j hj=>by
  rw [List.length_set] at hj
  by_cases g:i < l.length
  · rw [aL g];split
    · exact hv
    · exact h j hj
  · rw [List.set_eq_of_length_le (by omega)];exact h j hj
section
variable {p:Nat} [NeZero p]
/-- division by a monic polynomial of degree w -/
theorem DJ (hp:fX p) {a b:List Nat} {w:Nat} (ha:Lt p a) (hb:Lt p b) (hbl:b.length=w+1) (hb1:b.getD w 0=1) (hal:a.length≤900) (hw:w≤900) :
    ∃ q r,qu p a b=some (q,r,0)∧Lt p q∧Lt p r∧r.length≤w∧(q.length=0 ∨ q.length+w≤a.length)∧(q=[] ∨ q.getD (q.length - 1) 0≠0)∧(r=[] ∨ r.getD (r.length - 1) 0≠0)∧∀ x:Fin p,cc (P p a) x=cc (P p b) x*cc (P p q) x+cc (P p r) x:=by
  have hl:=hp.lt
  unfold qu
  -- the divisor is trimmed already
  obtain ⟨b',eb,b1,b2,b3⟩:=vv (f:=b) (by omega)
  have hbb:b'=b:=by
    have hlen:b'.length=w+1:=by
      apply Classical.byContradiction
      intro g
      have:=b2 w
      rw [mz (by omega),hb1] at this
      omega
    apply List.ext_getElem?
    intro i
    by_cases g:i < w+1
    · rw [ix 0 (by omega),ix 0 (by omega),b2 i]
    · rw [List.getElem?_eq_none (by omega),List.getElem?_eq_none (by omega)]
  subst hbb
  have hinv:JF p 1 (p - 2)=1:=by unfold JF;rw [Nat.one_pow];exact Nat.mod_eq_of_lt (by omega)
  obtain ⟨t,et,t1,t2,t3⟩:=vv (f:=a) (by omega)
  have htl:Lt p t:=fun i hi=>by rw [t2];exact ha.get hp.pos i
  have e1:((w+1:Nat):Int) - 1=(w:Int):=by omega
  rw [eb,bS,hbl,eF (by omega),cF,cD (by omega) (by omega),bS,e1,aX 0 (by omega) (by omega),bS]
  simp only [Int.toNat_natCast]
  rw [hb1,FL hp (by omega) (by omega),hinv,bS,et,bS,cD (by omega) (by omega),bS,bk (by omega) (by omega),bS,bS,ck (by omega) (by omega) (by omega) (by omega),bS]
  have eQ:(max (0:Int) ((t.length:Int) - ((w+1:Nat):Int)+1)).toNat=t.length - w:=by omega
  rw [eQ]
  obtain ⟨⟨r,q⟩,e,r1,r2,r3,r4,r5,r6⟩:=ny (step:=fun (st:(List Nat) × (List Nat))=>jn p b' (1,0) st.1 st.2)
    (fun st=>Lt p st.1∧Lt p st.2∧st.1.length≤t.length∧st.2.length=t.length - w∧(st.1=[] ∨ st.1.getD (st.1.length - 1) 0≠0)∧(∀ i,i+w+1≤st.1.length→st.2.getD i 0=0)∧∀ x:Fin p,cc (P p a) x=cc (P p b') x*cc (P p st.2) x+cc (P p st.1) x)
    (fun st=>Lt p st.1∧Lt p st.2∧st.1.length≤w∧st.2.length=t.length - w∧(st.1=[] ∨ st.1.getD (st.1.length - 1) 0≠0)∧∀ x:Fin p,cc (P p a) x=cc (P p b') x*cc (P p st.2) x+cc (P p st.1) x) (fun st=>st.1.length) (fun st ⟨h1,h2,h3,h4,h5,h6,h7⟩=>by
      obtain ⟨l2,l3⟩:=st
      replace h1:Lt p l2:=h1
      replace h2:Lt p l3:=h2
      replace h3:l2.length≤t.length:=h3
      replace h4:l3.length=t.length - w:=h4
      replace h5:l2=[] ∨ l2.getD (l2.length - 1) 0≠0:=h5
      replace h6:∀ i,i+w+1≤l2.length→l3.getD i 0=0:=h6
      replace h7:∀ x:Fin p,cc (P p a) x=cc (P p b') x*cc (P p l3) x+cc (P p l2) x:=h7
      show ∃ o,jn p b' (1,0) l2 l3=some o∧_
      unfold jn
      rw [hbl]
      by_cases c:w+1≤l2.length
      · have hat:((l2.length - (w+1):Nat):Int)=(l2.length:Int) - ((w+1:Nat):Int):=by omega
        have htop:=h1 (l2.length - 1) (by omega)
        rw [dT (by omega),cT,cD (by omega) (by omega),bS,cD (by omega) (by omega),bS,aX 0 (by omega) (by omega),bS,← hat]
        have et1:((l2.length:Int) - 1).toNat=l2.length - 1:=by omega
        rw [et1,jX hp htop (by omega),bS,aX 0 (by omega) (by omega),bS,bS,Nat.sub_zero]
        simp only [Int.toNat_natCast]
        generalize hk:l2.getD (l2.length - 1) 0*1 % p=k
        have hkp:k < p:=by rw [← hk];exact Nat.mod_lt _ hp.pos
        have hkt:k=l2.getD (l2.length - 1) 0:=by rw [← hk,Nat.mul_one,Nat.mod_eq_of_lt htop]
        generalize hA:l2.length - (w+1)=A
        have hAl:A+w+1=l2.length:=by omega
        obtain ⟨l10,e10,k1,k2,k3,k4⟩:=bo (body:=fun k1 (st:(List Nat))=>pY p b' ((A:Nat):Int) k k1 st) (rem:=w+1) (k:=0) (s:=l2)
          (fun j l=>l.length=l2.length∧Lt p l∧(∀ i,(i < A ∨ A+j≤i)→l.getD i 0=l2.getD i 0)∧(∀ i,i < j→o p (l.getD (A+i) 0)=o p (l2.getD (A+i) 0) - o p k*o p (b'.getD i 0))) ⟨rfl,h1,fun _ _=>rfl,fun i hi=>by omega⟩ (fun j l _ hj ⟨g1,g2,g3,g4⟩=>by
            have hbj:=hb j (by omega)
            have hAj:(((A:Nat):Int)+((j:Nat):Int))=((A+j:Nat):Int):=by omega
            unfold pY
            rw [ix 0 (by omega),bS,bk (by omega) (by omega),bS,hAj,aX 0 (by omega) (by omega),bS]
            simp only [Int.toNat_natCast]
            rw [jX hp hkp hbj,bS,Ah hp (g2 _ (by omega)) (Nat.mod_lt _ hp.pos),bS,bS]
            refine ⟨_,rfl,by rw [List.length_set];exact g1,vF g2 (Nat.mod_lt _ hp.pos),fun i hi=>?_,fun i hi=>?_⟩
            · rw [aL (by omega),if_neg (by omega)];exact g3 i (by omega)
            · rw [aL (by omega)]
              by_cases g:i=j
              · subst g
                rw [if_pos rfl,zY (Nat.mod_lt _ hp.pos),mf,pW,g3 (A+i) (by omega)]
              · rw [if_neg (by omega)];exact g4 i (by omega))
        rw [e10,bS]
        obtain ⟨t',e',u1,u2,u3⟩:=vv (f:=l10) (by omega)
        rw [e',bS]
        have hev:∀ x:Fin p,cc (P p l10) x=cc (P p l2) x - o p k*x ^ A*cc (P p b') x:=Em (fun j hj=>by rw [k3 j (by omega)]) (fun j=>by
          by_cases g:j < w+1
          · exact k4 j (by omega)
          · rw [k3 _ (by omega),mz (l:=b') (by omega),lk];grind)
        have htz:l10.getD (l2.length - 1) 0=0:=by
          have z:=k4 w (by omega)
          rw [hb1,show A+w=l2.length - 1 by omega,← hkt,xP] at z
          have z2:o p (l10.getD (l2.length - 1) 0)=0:=by rw [z];grind
          rw [wD,Nat.mod_eq_of_lt (k2 _ (by omega))] at z2
          exact z2
        have hlt:t'.length < l2.length:=by
          apply Classical.byContradiction
          intro g
          have:t'.length=l2.length:=by omega
          rcases u3 with u3 | u3
          · rw [u3] at this;simp at this;omega
          · rw [this,u2,htz] at u3;exact u3 rfl
        refine ⟨_,rfl,⟨fun i hi=>by rw [u2];exact k2.get hp.pos i,vF h2 hkp,by show t'.length≤_;omega,by show (l3.set A k).length=_;rw [List.length_set];exact h4,u3,fun i hi=>?_,fun x=>?_⟩,hlt⟩
        · show (l3.set A k).getD i 0=0
          have hi':i+w+1≤t'.length:=hi
          rw [aL (by omega),if_neg (by omega)];exact h6 i (by omega)
        · show cc (P p a) x=cc (P p b') x*cc (P p (l3.set A k)) x+cc (P p t') x
          rw [uV u2,hev,Dy (by omega) (h6 A (by omega)),h7 x];grind
      · rw [dF (by omega),cF]
        exact ⟨_,rfl,h1,h2,by show l2.length≤w;omega,h4,h5,h7⟩)
    (s:=(t,List.replicate (t.length - w) 0)) ⟨htl,fun i hi=>by simp at hi;simp [List.getD_eq_getElem?_getD,hi];exact hp.pos,Nat.le_refl _,by simp,t3,fun i hi=>by
      by_cases g:i < t.length - w <;> simp [List.getD_eq_getElem?_getD,g],fun x=>by
      have z:cc (P p (List.replicate (t.length - w) 0)) x=0:=rW (fun i=>by rw [pa];by_cases g:i < t.length - w <;> simp [List.getD_eq_getElem?_getD,g,lk]) x
      show cc (P p a) x=cc (P p b') x*cc (P p (List.replicate (t.length - w) 0)) x+cc (P p t) x
      rw [z,uV t2];grind⟩ (by show t.length < _;omega)
  rw [e,bS]
  simp only at r1 r2 r3 r4 r5 r6 ⊢
  obtain ⟨q',eq',q1,q2,q3⟩:=vv (f:=q) (by omega)
  rw [eq',bS]
  exact ⟨q',r,rfl,fun i hi=>by rw [q2];exact r2.get hp.pos i,r1,r3,by omega,q3,r5,fun x=>by rw [r6 x,uV q2]⟩
end
end Pu

/- Plain laws of the decoder of Reed and Solomon. -/
set_option linter.unusedVariables false
namespace Pu
open Gw Gl Sp Lean.Grind
instance:Inhabited aJ:=⟨⟨0,0⟩⟩
/-- the places are different and all words are below p -/
structure MJ (p:Nat) (pts:List aJ):Prop where
  x:∀ i,i < pts.length→(pts.getD i default).X < p
  y:∀ i,i < pts.length→(pts.getD i default).Y < p
  ne:∀ i,i < pts.length→∀ j,j < i→(pts.getD j default).X≠(pts.getD i default).X
theorem Bg {α:Type} {v:α} {k j:Int}:∀ {m:List (Int × α)},mU (se m k v) j=if k=j then some v else mU m j
  | []=>by
    simp only [se,mU]
    by_cases h:k=j
    · rw [eT h,cT,if_pos h]
    · rw [eF h,cF,if_neg h]
  | q :: m=>by
    simp only [se]
    by_cases h:q.1=k
    · rw [eT h,cT]
      simp only [mU]
      by_cases g:k=j
      · rw [eT g,cT,if_pos g]
      · rw [eF g,cF,if_neg g,h,eF g,cF]
    · rw [eF h,cF]
      simp only [mU]
      rw [Bg]
      by_cases g:q.1=j
      · rw [eT g,cT,cT,if_neg (fun e=>h (g.trans e.symm))]
      · rw [eF g,cF,cF]
theorem B6 {α:Type} (l:List α) (q:α→Bool):(l.filter q).length+(l.filter fun i=>!q i).length=l.length:=by
  induction l with
  | nil=>rfl
  | cons a l ih =>
    simp only [List.filter_cons]
    cases q a <;> simp <;> omega
theorem LQ {p:Nat} {pts:List aJ} {deg w:Nat} (hP:MJ p pts) (hn:deg+1+2*w≤pts.length) (hl:pts.length≤100):lN pts ((deg:Nat):Int) ((w:Nat):Int)=some true:=by
  unfold lN
  rw [dF (by omega),cF,dF (by omega),cF,dF (by omega),cF,dF (by omega),cF,bk (by omega) (by omega),bS,gE (by omega) (by omega),bS,bk (by omega) (by omega),bS,dF (by omega),bS,cF,Nat.sub_zero]
  obtain ⟨o,e,ho⟩:=iq (body:=fun k1 (st:(List (Int × Bool)))=>lW pts k1 st) (fun k l=>∀ z:Int,(∀ i,i < k→(((pts.getD i default).X:Nat):Int)≠z)→mU l z=none) (fun _=>False) (rem:=pts.length) (k:=0) (s:=([]:List (Int × Bool))) (fun _ _=>rfl) (fun k l _ hk h=>by
    unfold lW
    rw [ix default (by omega),bS,h _ (fun i hi e=>hP.ne k (by omega) i hi (by omega))]
    refine ⟨_,rfl,fun z hz=>?_⟩
    rw [Bg,if_neg (hz k (by omega))]
    exact h z fun i hi=>hz i (by omega))
  rw [e,bS]
  cases o with
  | fin r=>exact ho.elim
  | go s=>rw [oG]
section
variable {p:Nat} [NeZero p]
theorem qq {p n:Nat} {l:List Nat} {v:Nat} (h:∀ i,i < n→l.getD i 0 < p) (hl:l.length=n) (hv:v < p):∀ i,i < n+1→(l++[v]).getD i 0 < p:=fun i hi=>by
  by_cases g:i < n
  · rw [cy (by omega)];exact h i g
  · rw [c9 (by omega)];exact hv
/-- one row of the equations -/
theorem Me (hp:fX p) {X Y deg w:Nat} (hX:X < p) (hY:Y < p) (hd:deg+2*w≤100) :
    ∃ l x r y,cV (fun k2 (st:(List Nat) × Nat)=>fO p ⟨X,Y⟩ k2 st.1 st.2) (deg+w+1) 0 (([]:List Nat),1)=some (l,x) ∧
      cV (fun k3 (st:(List Nat) × Nat)=>fP p ⟨X,Y⟩ k3 st.1 st.2) w 0 (l,Y)=some (r,y)∧r.length=deg+w+1+w∧(∀ j,j < deg+w+1+w→r.getD j 0 < p)∧y < p ∧
      (∀ j,j < deg+w+1+w→o p (r.getD j 0)=lZ deg w (o p X) (o p Y) j)∧o p y=lZ deg w (o p X) (o p Y) (deg+w+1+w):=by
  have hl:=hp.lt
  obtain ⟨⟨l,x⟩,e,l1,l2,l3,_,_⟩:=bo (body:=fun k2 (st:(List Nat) × Nat)=>fO p ⟨X,Y⟩ k2 st.1 st.2) (rem:=deg+w+1) (k:=0) (s:=(([]:List Nat),1))
    (fun k st=>st.1.length=k∧(∀ j,j < k→st.1.getD j 0 < p)∧(∀ j,j < k→o p (st.1.getD j 0)=o p X ^ j)∧st.2 < p∧o p st.2=o p X ^ k)
    ⟨rfl,fun j hj=>by omega,fun j hj=>by omega,by show 1 < p;omega,by show o p 1=_;rw [xP];grind⟩ (fun k st _ hk ⟨h1,h2,h3,h4,h5⟩=>by
      unfold fO
      rw [aM (by rw [h1];simp;omega) (by rw [h1];simp;omega),bS,jX hp h4 hX,bS]
      refine ⟨_,rfl,by simp [h1],qq h2 h1 h4,fun j hj=>?_,Nat.mod_lt _ hp.pos,?_⟩
      · show o p ((st.1++[st.2]).getD j 0)=_
        by_cases g:j < k
        · rw [cy (by omega)];exact h3 j g
        · rw [c9 (by omega),h5];congr 1;omega
      · show o p (st.2*X % p)=_
        rw [mf,pW,h5];grind)
  rw [Nat.zero_add] at l1 l2 l3
  obtain ⟨⟨r,y⟩,e2,r1,r2,r3,r4,r5⟩:=bo (body:=fun k3 (st:(List Nat) × Nat)=>fP p ⟨X,Y⟩ k3 st.1 st.2) (rem:=w) (k:=0) (s:=(l,Y))
    (fun k st=>st.1.length=deg+w+1+k∧(∀ j,j < deg+w+1+k→st.1.getD j 0 < p)∧(∀ j,j < deg+w+1+k→o p (st.1.getD j 0)=lZ deg w (o p X) (o p Y) j)∧st.2 < p∧o p st.2=o p Y*o p X ^ k)
    ⟨l1,l2,fun j hj=>by rw [l3 j hj,lZ,if_pos (by omega)],hY,by show o p Y=_;grind⟩ (fun k st _ hk ⟨h1,h2,h3,h4,h5⟩=>by
      unfold fP
      rw [Cl hp h4,bS,aM (by rw [h1];simp;omega) (by rw [h1];simp;omega),bS,jX hp h4 hX,bS]
      refine ⟨_,rfl,by simp [h1];omega,qq h2 h1 (Nat.mod_lt _ hp.pos),fun j hj=>?_,Nat.mod_lt _ hp.pos,?_⟩
      · show o p ((st.1++[(p - st.2) % p]).getD j 0)=_
        by_cases g:j < deg+w+1+k
        · rw [cy (by omega)];exact h3 j g
        · rw [c9 (by omega),LV h4,h5,lZ,if_neg (by omega),if_pos (by omega),show j - (deg+w+1)=k by omega]
      · show o p (st.2*X % p)=_
        rw [mf,pW,h5];grind)
  rw [Nat.zero_add] at r1 r2 r3 r5
  exact ⟨l,x,r,y,e,e2,r1,r2,r4,r3,by rw [r5,lZ,if_neg (by omega),if_neg (by omega)]⟩
/-- the equations of Berlekamp and Welch -/
theorem Ms (hp:fX p) {pts:List aJ} {deg w:Nat} (hP:MJ p pts) (h0:0 < pts.length) (hd:deg+2*w≤100) (hl:pts.length≤100) :
    (∃ q e,jQ p pts ((deg:Nat):Int) ((w:Nat):Int)=some (q,e,true)∧q.length=deg+w+1∧Lt p q∧e.length=w+1∧Lt p e∧e.getD w 0=1 ∧
      ∀ i,i < pts.length→cc (P p q) (o p (pts.getD i default).X)=o p (pts.getD i default).Y*cc (P p e) (o p (pts.getD i default).X)) ∨
    (jQ p pts ((deg:Nat):Int) ((w:Nat):Int)=some ([],[],false)∧∀ f0 bad:List (Fin p),f0.length≤deg+1→bad.length≤w→¬ ∀ i,i < pts.length→(o p (pts.getD i default).X ∈ bad ∨ o p (pts.getD i default).Y=cc f0 (o p (pts.getD i default).X))):=by
  have hlt:=hp.lt
  unfold jQ
  rw [Nat.sub_zero]
  obtain ⟨⟨m,b⟩,e1,m1,m2,m3,m4,m5,m6⟩:=bo (body:=fun k1 (st:(List (List Nat)) × (List Nat))=>ie p pts ((deg:Nat):Int) ((w:Nat):Int) k1 st.1 st.2) (rem:=pts.length) (k:=0) (s:=(([]:List (List Nat)),([]:List Nat)))
    (fun k st=>st.1.length=k∧st.2.length=k∧(∀ i,i < k→(st.1.getD i []).length=deg+w+1+w∧∀ j,j < deg+w+1+w→(st.1.getD i []).getD j 0 < p)∧(∀ i,i < k→st.2.getD i 0 < p) ∧
      (∀ i,i < k→∀ j,j < deg+w+1+w→o p ((st.1.getD i []).getD j 0)=lZ deg w (o p (pts.getD i default).X) (o p (pts.getD i default).Y) j)∧∀ i,i < k→o p (st.2.getD i 0)=lZ deg w (o p (pts.getD i default).X) (o p (pts.getD i default).Y) (deg+w+1+w))
    ⟨rfl,rfl,fun i hi=>by omega,fun i hi=>by omega,fun i hi=>by omega,fun i hi=>by omega⟩ (fun k st _ hk ⟨h1,h2,h3,h4,h5,h6⟩=>by
      unfold ie
      have hx:=hP.x k (by omega)
      have hy:=hP.y k (by omega)
      rw [ix default (by omega),bS,bk (by omega) (by omega),bS,bk (by omega) (by omega),bS]
      generalize hq:pts.getD k default=Q at *
      obtain ⟨X,Y⟩:=Q
      obtain ⟨l,x,r,y,a1,a2,a3,a4,a5,a6,a7⟩:=Me (deg:=deg) (w:=w) hp hx hy (by omega)
      have z1:max 0 ((deg:Int)+(w:Int)+1).toNat=deg+w+1:=by omega
      have z2:max 0 ((w:Nat):Int).toNat=w:=by simp
      rw [z1,z2,bT (by omega),bS,Nat.sub_zero,a1,bS]
      simp only
      rw [bT (by omega),bS,Nat.sub_zero,a2,bS]
      simp only
      rw [aM (by rw [h1];simp;omega) (by rw [h1];simp;omega),bS,aM (by rw [h2];simp;omega) (by rw [h2];simp;omega),bS]
      refine ⟨_,rfl,by simp [h1],by simp [h2],fun i hi=>?_,qq h4 h2 a5,fun i hi=>?_,fun i hi=>?_⟩
      · show ((st.1++[r]).getD i []).length=_∧_
        by_cases g:i < k
        · simp only;rw [cy (by omega)];exact h3 i g
        · simp only;rw [c9 (by omega)];exact ⟨a3,a4⟩
      · simp only
        by_cases g:i < k
        · rw [cy (by omega)];exact h5 i g
        · have:i=k:=by omega
          subst this
          rw [c9 (by omega),hq];exact a6
      · simp only
        by_cases g:i < k
        · rw [cy (by omega)];exact h6 i g
        · have:i=k:=by omega
          subst this
          rw [c9 (by omega),hq];exact a7)
  rw [Nat.zero_add] at m1 m2 m3 m4 m5 m6
  simp only at m1 m2 m3 m4 m5 m6
  rw [e1,bS]
  simp only
  obtain ⟨v,e,e2,hv⟩:=GT (h:=pts.length) (n:=deg+w+1+w) (m:=m) (b:=b) (M:=fun i j=>lZ deg w (o p (pts.getD i default).X) (o p (pts.getD i default).Y) j) hp
    ⟨m1,fun i hi=>(m3 i hi).1,fun i hi=>(m3 i hi).2⟩ h0 m2 m4 (by omega) (by omega) (fun i hi j hj=>(m5 i hi j hj).symm) (fun i hi=>(m6 i hi).symm)
  rw [e2,bS]
  simp only
  rcases hv with ⟨rfl,v1,v2,v3⟩ | ⟨rfl,v1⟩
  · left
    rw [qF rfl,cF,bk (by omega) (by omega),bS,bk (by omega) (by omega),bS,eu (by omega) (by omega) (by omega),bS,eu (by omega) (by omega) (by omega),bS]
    have z1:((deg:Int)+(w:Int)+1).toNat=deg+w+1:=by omega
    rw [z1]
    simp only [Int.toNat_natCast,Int.toNat_zero,Nat.sub_zero,List.drop_zero]
    have hq:(v.take (deg+w+1)).length=deg+w+1:=by rw [List.length_take];omega
    have ht:((v.drop (deg+w+1)).take (v.length - (deg+w+1))).length=w:=by rw [List.length_take,List.length_drop];omega
    have hq1:∀ j,j < deg+w+1→(v.take (deg+w+1)).getD j 0=v.getD j 0:=fun j hj=>by
      rw [List.getD_eq_getElem?_getD,List.getElem?_take,if_pos hj,← List.getD_eq_getElem?_getD]
    have ht1:∀ j,j < w→((v.drop (deg+w+1)).take (v.length - (deg+w+1))).getD j 0=v.getD (deg+w+1+j) 0:=fun j hj=>by
      rw [List.getD_eq_getElem?_getD,List.getElem?_take,if_pos (by omega),List.getElem?_drop,← List.getD_eq_getElem?_getD]
    generalize v.take (deg+w+1)=q at *
    generalize (v.drop (deg+w+1)).take (v.length - (deg+w+1))=t at *
    rw [aM (by simp;omega) (by simp;omega),bS,List.nil_append,aM (by simp;omega) (by simp;omega),bS]
    refine ⟨_,_,rfl,hq,fun i hi=>by rw [hq1 i (by omega)];exact v2 i (by omega),by simp [ht],fun i hi=>?_,c9 ht.symm,fun i hi=>?_⟩
    · simp only [List.length_append,List.length_cons,List.length_nil] at hi
      exact qq (n:=w) (fun j hj=>by rw [ht1 j hj];exact v2 _ (by omega)) ht (by omega) i (by omega)
    · have:=v3 i hi
      rw [← EQ (deg:=deg) (w:=w) (v:=fun j=>o p (v.getD j 0)) (by rw [mS,hq]) (by rw [mS];simp [ht]) (by rw [pa,c9 ht.symm,xP]) (fun j hj=>by rw [pa,hq1 j hj]) (fun k hk=>by rw [pa,cy (by omega),ht1 k hk])]
      exact this
  · right
    rw [qT (by omega),cT]
    refine ⟨rfl,fun f0 bad g1 g2 g3=>?_⟩
    obtain ⟨u,hu⟩:=DC (deg:=deg) (w:=w) g1 g2
    exact v1 u fun i hi=>hu _ _ (g3 i hi)
/-- where the words differ -/
def lA (p:Nat) (pts:List aJ) (f:List Nat) [NeZero p]:List Nat:=(List.range pts.length).filter fun i=>decide (cc (P p f) (o p (pts.getD i default).X)≠o p (pts.getD i default).Y)
theorem DO (hp:fX p) {pts:List aJ} {f:List Nat} (hP:MJ p pts) (hf:Lt p f) (hfl:f.length≤1000) (hl:pts.length≤100) :
    fu p f pts=some ((lA p pts f).map fun i=>((i:Nat):Int)):=by
  unfold fu
  rw [Nat.sub_zero]
  obtain ⟨l,e,h⟩:=bo (body:=fun k1 (st:(List Int))=>f9 p f pts k1 st) (rem:=pts.length) (k:=0) (s:=([]:List Int))
    (fun k l=>l=((List.range k).filter fun i=>decide (cc (P p f) (o p (pts.getD i default).X)≠o p (pts.getD i default).Y)).map fun i=>((i:Nat):Int)) rfl (fun k l _ hk h=>by
      unfold f9
      obtain ⟨y,ey,y1,y2⟩:=zH hp hf (hP.x k (by omega)) hfl
      have hll:l.length≤k:=by rw [h,List.length_map];exact Nat.le_trans (List.length_filter_le ..) (by simp)
      rw [ix default (by omega),bS,ey,bS,List.range_succ,List.filter_append,List.map_append,← h]
      by_cases g:y=(pts.getD k default).Y
      · rw [qF (by omega),cF]
        refine ⟨_,rfl,?_⟩
        have:decide (cc (P p f) (o p (pts.getD k default).X)≠o p (pts.getD k default).Y)=false:=by rw [← y2,g];simp
        simp only [List.filter_cons,this,List.filter_nil]
        simp
      · rw [qT (by omega),cT,aM (by simp;omega) (by simp;omega),bS]
        refine ⟨_,rfl,?_⟩
        have:decide (cc (P p f) (o p (pts.getD k default).X)≠o p (pts.getD k default).Y)=true:=by
          rw [← y2];exact decide_eq_true fun e=>g (tD y1 (hP.y k (by omega)) e)
        simp only [List.filter_cons,this,List.filter_nil]
        simp)
  rw [Nat.zero_add] at h
  rw [e,bS,h];rfl
theorem Ev {pts:List aJ} {f:List Nat}:∀ i ∈ lA p pts f,i < pts.length:=fun i hi=>by
  have:=(List.mem_filter.1 hi).1
  simpa using this
theorem Jy (hp:fX p) {pts:List aJ} (hP:MJ p pts) (l:List Nat) (hl:l.Nodup) (hlt:∀ i ∈ l,i < pts.length):(l.map fun i=>o p (pts.getD i default).X).Nodup:=by
  rw [List.Nodup,List.pairwise_map]
  refine List.Pairwise.imp_of_mem ?_ hl
  intro i j hi hj hne e
  have e':=tD (hP.x i (hlt i hi)) (hP.x j (hlt j hj)) e
  rcases Nat.lt_or_gt_of_ne hne with g | g
  · exact hP.ne j (hlt j hj) i g e'
  · exact hP.ne i (hlt i hi) j g e'.symm
/-- decoding: an answer always; the right one where at most w words are wrong -/
theorem yA (hp:fX p) {pts:List aJ} {deg w:Nat} (hP:MJ p pts) (hn:deg+1+2*w≤pts.length) (hl:pts.length≤13) :
    ∃ f at_ e,dY p pts ((deg:Nat):Int) ((w:Nat):Int)=some (f,at_,e)∧Lt p f∧f.length≤deg+1∧(∃ l:List Nat,at_=l.map (fun i=>((i:Nat):Int))∧∀ i ∈ l,i < pts.length) ∧
      ∀ f0:List Nat,f0.length≤deg+1→(lA p pts f0).length≤w→e=0∧(∀ i,o p (f.getD i 0)=o p (f0.getD i 0))∧at_=(lA p pts f0).map (fun i=>((i:Nat):Int)):=by
  have hlt:=hp.lt
  unfold dY
  rw [LQ hP hn (by omega),bS,nT,cF]
  have key:∀ f0:List Nat,(lA p pts f0).length≤w→∀ i,i < pts.length→(o p (pts.getD i default).X ∈ (lA p pts f0).map (fun i=>o p (pts.getD i default).X) ∨ o p (pts.getD i default).Y=cc (P p f0) (o p (pts.getD i default).X)):=fun f0 _ i hi=>by
    by_cases g:cc (P p f0) (o p (pts.getD i default).X)=o p (pts.getD i default).Y
    · exact .inr g.symm
    · left
      refine List.mem_map.2 ⟨i,List.mem_filter.2 ⟨by simpa using hi,decide_eq_true g⟩,rfl⟩
  rcases Ms (deg:=deg) (w:=w) hp hP (by omega) (by omega) (by omega) with ⟨q,e,et,q1,q2,e1,e2,e3,heq⟩ | ⟨et,hno⟩
  · rw [et,bS]
    simp only [nT,cF]
    obtain ⟨f,r,ed,f1,r1,r2,f2,f3,r3,hd⟩:=DJ hp q2 e2 e1 e3 (by omega) (by omega)
    rw [ed,bS]
    simp only
    -- what a right polynomial makes of it
    have good:∀ f0:List Nat,f0.length≤deg+1→(lA p pts f0).length≤w→(∀ i,cf (P p f) i=cf (P p f0) i)∧∀ i,cf (P p r) i=0:=fun f0 g1 g2=>by
      let ok:=(List.range pts.length).filter fun i=>!decide (cc (P p f0) (o p (pts.getD i default).X)≠o p (pts.getD i default).Y)
      have hcount:ok.length+(lA p pts f0).length=pts.length:=by
        have:=B6 (List.range pts.length) (fun i=>decide (cc (P p f0) (o p (pts.getD i default).X)≠o p (pts.getD i default).Y))
        rw [List.length_range] at this
        show (List.filter _ _).length+(List.filter _ _).length=_
        omega
      refine bw (good:=ok.map fun i=>o p (pts.getD i default).X) (all:=(List.range 31).map (o p)) (deg:=deg) (w:=w) (q:=P p q) (e:=P p e) hp.nz ?_ ?_ (by rw [mS];omega) (by rw [mS];exact g1) (by rw [pa,e3,xP]) (by rw [mS];exact e1) (by rw [mS];exact r2) (by rw [List.length_map];omega) (by simp;omega) (by rw [mS];simp;omega) (by simp;omega) ?_ hd
      · exact Jy hp hP ok (List.Pairwise.filter _ List.nodup_range) (fun i hi=>by have:=(List.mem_filter.1 hi).1;simpa using this)
      · rw [List.Nodup,List.pairwise_map]
        refine List.Pairwise.imp_of_mem ?_ List.nodup_range
        intro a b ha hb hne e
        simp only [List.mem_range] at ha hb
        exact hne (tD (by omega) (by omega) e)
      · intro x hx
        obtain ⟨i,hi,rfl⟩:=List.mem_map.1 hx
        have hi':=List.mem_filter.1 hi
        have hil:i < pts.length:=by simpa using hi'.1
        have h3:cc (P p f0) (o p (pts.getD i default).X)=o p (pts.getD i default).Y:=by simpa using hi'.2
        rw [heq i hil,h3]
    have good2:∀ f0:List Nat,f0.length≤deg+1→(lA p pts f0).length≤w→r=[]∧(∀ i,deg+1≤i→f.getD i 0=0)∧lA p pts f=lA p pts f0:=fun f0 g1 g2=>by
      obtain ⟨k1,k2⟩:=good f0 g1 g2
      refine ⟨?_,fun i hi=>?_,?_⟩
      · rcases r3 with r3 | r3
        · exact r3
        · exfalso
          have:=k2 (r.length - 1)
          rw [pa,wD,Nat.mod_eq_of_lt (r1.get hp.pos _)] at this
          exact r3 this
      · have:=k1 i
        rw [pa,pa,mz (l:=f0) (by omega),lk,wD,Nat.mod_eq_of_lt (f1.get hp.pos _)] at this
        exact this
      · unfold lA
        congr 1
        funext i
        rw [kU k1]
    obtain ⟨k,dk1,dk2,dk3,dk4⟩:=yC (f:=f) (by omega)
    by_cases c1:r.length > 0
    · rw [dT (by omega),cT,bS,cT]
      exact ⟨_,_,_,rfl,fun i hi=>by simp at hi,by simp,⟨[],rfl,by simp⟩,fun f0 g1 g2=>by have:=(good2 f0 g1 g2).1;rw [this] at c1;simp at c1⟩
    · rw [dF (by omega),cF,dk2,bS]
      by_cases c2:deg+1 < k
      · rw [dT (by omega),bS,cT]
        exact ⟨_,_,_,rfl,fun i hi=>by simp at hi,by simp,⟨[],rfl,by simp⟩,fun f0 g1 g2=>by
          have:=(good2 f0 g1 g2).2.1 (k - 1) (by omega)
          rcases dk4 with z | z
          · omega
          · exact absurd this z⟩
      · rw [dF (by omega),bS,cF,DO hp hP f1 (by omega) (by omega),bS,List.length_map]
        have hfl:f.length≤deg+1:=by
          rcases f3 with z | z
          · rw [z];simp
          · apply Classical.byContradiction
            intro g
            exact z (dk3 _ (by omega))
        by_cases c3:(lA p pts f).length≤w
        · rw [dF (by omega),cF]
          refine ⟨_,_,_,rfl,f1,hfl,⟨_,rfl,Ev⟩,fun f0 g1 g2=>⟨rfl,fun i=>?_,by rw [(good2 f0 g1 g2).2.2]⟩⟩
          have:=(good f0 g1 g2).1 i
          rw [pa,pa] at this
          exact this
        · rw [dT (by omega),cT]
          exact ⟨_,_,_,rfl,fun i hi=>by simp at hi,by simp,⟨[],rfl,by simp⟩,fun f0 g1 g2=>by
            have:=(good2 f0 g1 g2).2.2
            rw [this] at c3;omega⟩
  · rw [et,bS]
    simp only [nF,cT]
    exact ⟨_,_,_,rfl,fun i hi=>by simp at hi,by simp,⟨[],rfl,by simp⟩,fun f0 g1 g2=>absurd (key f0 g2) (hno _ _ (by rw [mS];exact g1) (by rw [List.length_map];exact g2))⟩
end
end Pu

/- Plain laws of the network: deviations, messages, views. -/
set_option linter.unusedVariables false
namespace Pu
open Gw Gl Sp
instance:Inhabited aO:=⟨⟨0,0,0,0,0,0,0,0⟩⟩
instance:Inhabited al:=⟨⟨0,0,[]⟩⟩
/-- what a valid scenario says -/
structure Sc (w:ae) (n t:Nat):Prop where
  sup:fX w.S.P
  N:w.S.N=n
  T:w.S.T=t
  n4:4≤n
  n13:n≤13
  t1:1≤t
  t3:3*t < n
  cl:w.af.length≤t
  cr:∀ x ∈ w.af,1≤x∧x≤n
  dl:w.aa.length≤40
  dv:∀ x ∈ w.aa,1≤x.From∧x.From≤n∧0≤x.At∧0≤x.bF∧0≤x.Of∧x.Of≤n∧(x.Kind=3→1≤x.Of)∧x.K < 18446744073709551616
theorem nL {l:List Int} {v:Int}:db l v=some (decide (v ∈ l)):=by
  unfold db j9
  rw [Nat.sub_zero]
  obtain ⟨o,e,ho⟩:=iq (body:=fun k1 (st:Unit)=>iW l v k1) (fun k _=>∀ i,i < k→l.getD i 0≠v) (fun r=>0≤r∧v ∈ l) (rem:=l.length) (k:=0) (s:=()) (fun i hi=>by omega) (fun k _ _ hk h=>by
    unfold iW
    have hkl:k < l.length:=by omega
    rw [ix 0 hkl,bS]
    by_cases g:v=l.getD k 0
    · rw [eT g,cT]
      refine ⟨_,rfl,by omega,?_⟩
      rw [g,List.getD_eq_getElem?_getD,List.getElem?_eq_getElem hkl]
      exact List.getElem_mem hkl
    · rw [eF g,cF]
      refine ⟨_,rfl,fun i hi=>?_⟩
      by_cases e:i=k
      · subst e;exact fun z=>g z.symm
      · exact h i (by omega))
  rw [e,bS]
  cases o with
  | fin r=>rw [oF,bS,dT ho.1,dT ho.2]
  | go s =>
    rw [oG,bS,dF (by omega),dF]
    intro hv
    obtain ⟨i,hi,rfl⟩:=List.getElem_of_mem hv
    apply ho i (by omega)
    rw [List.getD_eq_getElem?_getD,List.getElem?_eq_getElem hi];rfl
theorem Kc {l:List Nat} {i:Int} (h:l.length≤1000):∃ x,kB l i=some x∧∀ p,0 < p→Lt p l→x < p:=by
  unfold kB
  by_cases g:i < 0
  · rw [dT g,cT];exact ⟨0,rfl,fun p hp _=>hp⟩
  · rw [dF g,cF]
    by_cases g2:i < l.length
    · rw [dF (by omega),cF,aX 0 (by omega) g2,bS]
      exact ⟨_,rfl,fun p hp hl=>hl _ (by omega)⟩
    · rw [dT (by omega),cT];exact ⟨0,rfl,fun p hp _=>hp⟩
theorem Dn {w:ae} {n t:Nat} (s:Sc w n t) {x:aO} {l said:List Nat} (hx:x ∈ w.aa) (hl:Lt w.S.P l) (hll:l.length≤1000) (hs:Lt w.S.P said) (hsl:said.length≤1000) :
    ∃ r,kA w x l said=some r∧Lt w.S.P r∧r.length≤l.length:=by
  have hp:=s.sup
  have hlt:=hp.lt
  obtain ⟨d1,d2,d3,d4,d5,d6,d7,d8⟩:=s.dv x hx
  unfold kA
  by_cases k4:x.Kind=4
  · rw [eT k4,cT];exact ⟨_,rfl,fun i hi=>by simp at hi,by simp⟩
  · rw [eF k4,cF]
    by_cases ha:x.At < (l.length:Int)
    · have hk:=Nat.mod_lt x.K hp.pos
      have hat:x.At.toNat < l.length:=by omega
      have hla:=hl _ hat
      rw [dF (by omega),cF,yP hp d8,bS,xB (by omega),bS]
      by_cases k1:x.Kind=1
      · rw [eT k1,cT,aX 0 d3 ha,bS,bS]
        exact ⟨_,rfl,vF hl hk,by simp⟩
      · rw [eF k1,cF]
        by_cases k2:x.Kind=2
        · rw [eT k2,cT,aX 0 d3 ha,bS,vI hp (by omega),bS,bS]
          exact ⟨_,rfl,vF hl (Nat.mod_lt _ hp.pos),by simp⟩
        · rw [eF k2,cF]
          by_cases k3:x.Kind=3
          · rw [eT k3,cT,nL,bS]
            obtain ⟨y,ey,hy⟩:=Kc (l:=said) (i:=x.bF) (by omega)
            obtain ⟨z,ez,hz⟩:∃ z,(bif !(decide (x.Of ∈ w.af)) then kB said x.bF >>= fun r5=>some r5 else some 0)=some z∧z < w.S.P:=by
              cases decide (x.Of ∈ w.af) with
              | false=>rw [nF,cT,ey,bS];exact ⟨_,rfl,hy _ hp.pos hs⟩
              | true=>rw [nT,cF];exact ⟨_,rfl,hp.pos⟩
            have hm:=Nat.mod_lt (x.K % w.S.P*z) hp.pos
            rw [ez,bS,aX 0 d3 ha,bS,jX hp hk hz,bS,vI hp (by omega),bS,bS]
            exact ⟨_,rfl,vF hl (Nat.mod_lt _ hp.pos),by simp⟩
          · rw [eF k3,cF];exact ⟨_,rfl,hl,Nat.le_refl _⟩
    · rw [dT (by omega),cT];exact ⟨_,rfl,hl,Nat.le_refl _⟩
/-- messages between n parties: at most L words each, below p -/
structure Sq (p n L:Nat) (m:List (List (List Nat))):Prop where
  len:m.length=n
  row:∀ i,i < n→(m.getD i []).length=n
  w:∀ i,i < n→∀ j,j < n→Lt p ((m.getD i []).getD j [])∧((m.getD i []).getD j []).length≤L
theorem Sq.s1 {p n L i:Nat} {m:List (List (List Nat))} (s:Sq p n L m) (hi:i < n):m[i]?=some (m.getD i []):=ix [] (by rw [s.len];exact hi)
theorem Sq.s2 {p n L i j:Nat} {m:List (List (List Nat))} (s:Sq p n L m) (hi:i < n) (hj:j < n):(m.getD i [])[j]?=some ((m.getD i []).getD j []):=ix [] (by rw [s.row i hi];exact hj)
theorem Sq.setW {p n L i j:Nat} {m:List (List (List Nat))} {r:List Nat} (s:Sq p n L m) (hi:i < n) (hj:j < n) (hr:Lt p r∧r.length≤L):Sq p n L (m.set i ((m.getD i []).set j r)):=by
  have hil:i < m.length:=by rw [s.len];exact hi
  refine ⟨by rw [List.length_set];exact s.len,fun k hk=>?_,fun k hk q hq=>?_⟩
  · rw [aL hil];split
    · rw [List.length_set];exact s.row i hi
    · exact s.row k hk
  · rw [aL hil];split
    · rw [aL (by rw [s.row i hi];exact hj)];split
      · exact hr
      · exact s.w i hi q hq
    · exact s.w k hk q hq
/-- the deviations of a round -/
theorem EN {w:ae} {n t L:Nat} (s:Sc w n t) {out:List (List (List Nat))} {round:Int} (ho:Sq w.S.P n L out) (hL:L≤1000) :
    ∃ all,bO w round out=some all∧(Sq w.S.P n L all∧∀ i,i < n→∀ j,j < n→((all.getD i []).getD j []).length≤((out.getD i []).getD j []).length)∧∀ i,i < n→(((i:Nat):Int)+1) ∉ w.af→all.getD i []=out.getD i []:=by
  have h13:=s.n13
  unfold bO
  rw [ho.len,ck (by omega) (by omega) (by omega) (by omega),bS,Nat.sub_zero,Int.toNat_natCast]
  obtain ⟨l3,e3,h1,h2⟩:=bo (body:=fun k1 (st:(List (List (List Nat))))=>dD out k1 st) (rem:=n) (k:=0) (s:=List.replicate n [])
    (fun k l=>l.length=n∧∀ i,i < k→l.getD i []=out.getD i []) ⟨by simp,fun i hi=>by omega⟩ (fun k l _ hk ⟨h1,h2⟩=>by
      have hk':k < n:=by omega
      unfold dD
      rw [ho.s1 hk',bS,ri (by rw [ho.row k hk'];omega),bS,ix [] (by omega),bS,bS]
      refine ⟨_,rfl,by rw [List.length_set];exact h1,fun i hi=>?_⟩
      rw [aL (by omega)]
      by_cases g:k=i
      · rw [if_pos g,g]
      · rw [if_neg g];exact h2 i (by omega))
  have hl3:l3=out:=by
    apply List.ext_getElem?
    intro i
    by_cases g:i < n
    · rw [ix [] (by omega),ix [] (by rw [ho.len];omega),h2 i (by omega)]
    · rw [List.getElem?_eq_none (by omega),List.getElem?_eq_none (by rw [ho.len];omega)]
  subst hl3
  rw [e3,bS,Nat.sub_zero]
  obtain ⟨all,e,k1,k2⟩:=bo (body:=fun k2 (st:(List (List (List Nat))))=>gH w round l3 k2 st) (rem:=w.aa.length) (k:=0) (s:=l3)
    (fun _ all=>(Sq w.S.P n L all∧∀ i,i < n→∀ j,j < n→((all.getD i []).getD j []).length≤((l3.getD i []).getD j []).length)∧∀ i,i < n→(((i:Nat):Int)+1) ∉ w.af→all.getD i []=l3.getD i []) ⟨⟨ho,fun _ _ _ _=>Nat.le_refl _⟩,fun _ _ _=>rfl⟩ (fun k all _ hk ⟨⟨k1,kl⟩,k2⟩=>by
      have hkd:k < w.aa.length:=by omega
      unfold gH
      rw [ix default hkd,bS]
      have hx:w.aa.getD k default ∈ w.aa:=by
        rw [List.getD_eq_getElem?_getD,List.getElem?_eq_getElem hkd];exact List.getElem_mem hkd
      generalize w.aa.getD k default=x at hx
      obtain ⟨d1,d2,d3,d4,d5,d6,d7,d8⟩:=s.dv x hx
      unfold kz
      by_cases g:x.Round=round∧x.From ∈ w.af
      · rw [eT g.1,cT,nL,bS,bS,dT g.2,nT,cF]
        have hf:x.From.toNat - 1 < n:=by omega
        have hfe:(x.From - 1).toNat=x.From.toNat - 1:=by omega
        obtain ⟨said,es,hs1,hs2⟩:∃ said,(bif x.Kind == (3:Int) then
            i9 x.Of (1:Int) >>= fun x6=>gM l3 x6 >>= fun x7=>i9 x.From (1:Int) >>= fun x8=>gM x7 x8 >>= fun x9=>some x9
          else some ([]:List Nat))=some said∧Lt w.S.P said∧said.length≤1000:=by
          by_cases k3:x.Kind=3
          · have h7:=d7 k3
            have hoe:(x.Of - 1).toNat < n:=by omega
            rw [eT k3,cT,cD (by omega) (by omega),bS,aX [] (by omega) (by rw [ho.len];omega),bS,cD (by omega) (by omega),bS,aX [] (by omega) (by rw [ho.row _ hoe];omega),bS]
            have:=ho.w _ hoe (x.From - 1).toNat (by omega)
            exact ⟨_,rfl,this.1,by omega⟩
          · rw [eF k3,cF];exact ⟨_,rfl,fun i hi=>by simp at hi,by simp⟩
        rw [es,bS,cD (by omega) (by omega),bS,aX [] (by omega) (by rw [k1.len];omega),bS,hfe,k1.row _ hf,bT (by omega),bS,Nat.sub_zero]
        obtain ⟨all',e',q1,q2⟩:=bo (body:=fun k3 (st:(List (List (List Nat))))=>gI w x said (x.From - 1) k3 st) (rem:=n) (k:=0) (s:=all)
          (fun _ a=>(Sq w.S.P n L a∧∀ i,i < n→∀ j,j < n→((a.getD i []).getD j []).length≤((l3.getD i []).getD j []).length)∧∀ i,i < n→i≠x.From.toNat - 1→a.getD i []=all.getD i []) ⟨⟨k1,kl⟩,fun _ _ _=>rfl⟩ (fun j a _ hj ⟨⟨q1,ql⟩,q2⟩=>by
            have hjn:j < n:=by omega
            unfold gI
            rw [bk (by omega) (by omega),bS]
            have:∃ b,(bif (((j:Nat):Int)+1) != x.From then bif x.To == (0:Int) then some true else some (x.To == (((j:Nat):Int)+1)) else some false)=some b:=by
              by_cases g1:((j:Nat):Int)+1=x.From
              · rw [qF g1,cF];exact ⟨_,rfl⟩
              · rw [qT g1,cT]
                by_cases g2:x.To=0
                · rw [eT g2,cT];exact ⟨_,rfl⟩
                · rw [eF g2,cF];exact ⟨_,rfl⟩
            obtain ⟨b,eb⟩:=this
            rw [eb,bS]
            cases b with
            | false=>rw [cF];exact ⟨_,rfl,⟨q1,ql⟩,q2⟩
            | true =>
              rw [cT,aX [] (by omega) (by rw [q1.len];omega),bS,hfe,q1.s2 hf hjn,bS]
              obtain ⟨hw1,hw2⟩:=q1.w _ hf j hjn
              obtain ⟨r,er,r1,r2⟩:=Dn s hx hw1 (by omega) hs1 hs2
              rw [er,bS,bS,bS]
              have hql:=ql _ hf j hjn
              refine ⟨_,rfl,⟨q1.setW hf hjn ⟨r1,by omega⟩,fun i hi j' hj'=>?_⟩,fun i hi hne=>?_⟩
              · rw [aL (by rw [q1.len];exact hf)]
                by_cases g:x.From.toNat - 1=i
                · rw [if_pos g,aL (by rw [q1.row _ hf];exact hjn),← g]
                  by_cases g':j=j'
                  · rw [if_pos g',← g'];omega
                  · rw [if_neg g'];exact ql _ hf j' hj'
                · rw [if_neg g];exact ql i hi j' hj'
              rw [aL (by rw [q1.len];exact hf),if_neg (fun e=>hne e.symm)];exact q2 i hi hne)
        rw [e',bS]
        refine ⟨_,rfl,q1,fun i hi hc=>?_⟩
        rw [q2 i hi (fun e => hc (by rw [e]; have : ((x.From.toNat - 1 : Nat) : Int) + 1 = x.From := by omega
                                     rw [this];exact g.2))]
        exact k2 i hi hc
      · have:(bif x.Round == round then db w.af x.From >>= fun r1=>some r1 else some false)=some false:=by
          by_cases g1:x.Round=round
          · rw [eT g1,cT,nL,bS,dF (fun h=>g ⟨g1,h⟩)]
          · rw [eF g1,cF]
        rw [this,bS,nF,cT]
        exact ⟨_,rfl,⟨k1,kl⟩,k2⟩)
  rw [e,bS]
  exact ⟨_,rfl,k1,k2⟩
/-- what a party receives in a round, as its view has it -/
def AV (round:Int) (all:List (List (List Nat))) (j k:Nat):List al :=
  ((List.range k).filter fun i=>decide (i≠j∧0 < ((all.getD i []).getD j []).length)).map fun i=>⟨round,((i:Nat):Int)+1,(all.getD i []).getD j []⟩
theorem zI {round:Int} {all:List (List (List Nat))} {j k:Nat}:(AV round all j k).length≤k:=by
  unfold AV;rw [List.length_map];exact Nat.le_trans (List.length_filter_le ..) (by simp)
theorem Fa {round:Int} {all:List (List (List Nat))} {j k:Nat}:AV round all j (k+1)=AV round all j k++if k≠j∧0 < ((all.getD k []).getD j []).length then [⟨round,((k:Nat):Int)+1,(all.getD k []).getD j []⟩] else []:=by
  unfold AV
  rw [List.range_succ,List.filter_append,List.map_append]
  congr 1
  by_cases g:k≠j∧0 < ((all.getD k []).getD j []).length
  · rw [if_pos g];simp only [List.filter_cons,decide_eq_true g,List.filter_nil];simp
  · rw [if_neg g];simp only [List.filter_cons,decide_eq_false g,List.filter_nil];simp
theorem Db {net:ai} {j k:Nat} {l:List Nat} (hv:j < net.au.length) (hl:l.length≤1000) (hb:(net.au.getD j []).length≤1000) (hk:k≤1000) :
    jm net ((j:Nat):Int) ((k:Nat):Int) l=some (if k≠j∧0 < l.length then net.au.set j (net.au.getD j []++[⟨net.ah,((k:Nat):Int)+1,l⟩]) else net.au):=by
  unfold jm
  by_cases g:j=k
  · rw [qF (by omega),cF,bS,cF,if_neg (by omega)]
  · rw [qT (by omega),cT]
    by_cases g2:0 < l.length
    · rw [dT (by omega),bS,cT,aX [] (by omega) (by omega),bS,bk (by omega) (by omega),bS,aM (by simp;omega) (by simp;omega),bS,List.nil_append]
      simp only [Int.toNat_natCast]
      rw [aM (by simp only [List.length_cons,List.length_nil];omega) (by simp only [List.length_cons,List.length_nil];omega),bS,bS,if_pos ⟨fun e=>g e.symm,g2⟩]
    · rw [dF (by omega),bS,cF,if_neg (fun h=>g2 h.2)]
/-- a round -/
theorem Ab {net:ai} {n t L:Nat} (s:Sc net.zw n t) {out:List (List (List Nat))} (ho:Sq net.zw.S.P n L out) (hL:L≤1000) (hv:net.au.length=n) (hb:∀ j,j < n→(net.au.getD j []).length≤500) (hr:0≤net.ah∧net.ah≤1000) :
    ∃ all inn views,bO net.zw net.ah out=some all∧hJ net out=some (inn,net.ah+1,views)∧(Sq net.zw.S.P n L all∧∀ i,i < n→∀ j,j < n→((all.getD i []).getD j []).length≤((out.getD i []).getD j []).length)∧(∀ i,i < n→(((i:Nat):Int)+1) ∉ net.zw.af→all.getD i []=out.getD i []) ∧
      inn.length=n∧(∀ j,j < n→(inn.getD j []).length=n∧∀ i,i < n→(inn.getD j []).getD i []=(all.getD i []).getD j [])∧views.length=n∧∀ j,j < n→views.getD j []=net.au.getD j []++AV net.ah all j n:=by
  have h13:=s.n13
  obtain ⟨all,ea,⟨q1,ql⟩,q2⟩:=EN (round:=net.ah) s ho hL
  unfold hJ
  rw [ea,bS,s.N,ck (by omega) (by omega) (by omega) (by omega),bS,Int.toNat_natCast,List.length_replicate,Nat.sub_zero]
  obtain ⟨⟨views,inn⟩,e,h1,h2,h3,h4,h5,h6⟩:=bo (body:=fun k1 (st:(List (List al)) × (List (List (List Nat))))=>gO net all k1 st.1 st.2) (rem:=n) (k:=0) (s:=(net.au,List.replicate n []))
    (fun k st=>st.1.length=n∧st.2.length=n∧(∀ j,j < k→st.1.getD j []=net.au.getD j []++AV net.ah all j n)∧(∀ j,k≤j→st.1.getD j []=net.au.getD j [])∧(∀ j,j < k→(st.2.getD j []).length=n∧∀ i,i < n→(st.2.getD j []).getD i []=(all.getD i []).getD j [])∧(∀ j,k≤j→st.2.getD j []=[]))
    ⟨hv,by simp,fun j hj=>by omega,fun _ _=>rfl,fun j hj=>by omega,fun j _=>by by_cases g:j < n <;> simp [List.getD_eq_getElem?_getD,g]⟩ (fun j st _ hj ⟨h1,h2,h3,h4,h5,h6⟩=>by
      have hjn:j < n:=by omega
      unfold gO
      have hmx:max 0 net.zw.S.N.toNat=n:=by rw [s.N];simp
      rw [hmx,bT (by omega),bS,Nat.sub_zero]
      obtain ⟨⟨v',i'⟩,e',g1,g2,g3,g4,g5,g6,g7⟩:=bo (body:=fun k2 (st:(List (List al)) × (List (List (List Nat))))=>gP net all j k2 st.1 st.2) (rem:=n) (k:=0) (s:=(st.1,st.2))
        (fun k q=>q.1.length=n∧q.2.length=n∧q.1.getD j []=net.au.getD j []++AV net.ah all j k∧(∀ i,i≠j→q.1.getD i []=st.1.getD i [])∧(q.2.getD j []).length=k∧(∀ i,i < k→(q.2.getD j []).getD i []=(all.getD i []).getD j [])∧(∀ i,i≠j→q.2.getD i []=st.2.getD i []))
        ⟨h1,h2,by rw [h4 j (Nat.le_refl j)];simp [AV],fun _ _=>rfl,by rw [h6 j (Nat.le_refl j)];rfl,fun i hi=>by omega,fun _ _=>rfl⟩ (fun k q _ hk ⟨g1,g2,g3,g4,g5,g6,g7⟩=>by
          have hkn:k < n:=by omega
          obtain ⟨w1,w2⟩:=q1.w k hkn j hjn
          have hel:=zI (round:=net.ah) (all:=all) (j:=j) (k:=k)
          have hbj:=hb j hjn
          have hq1:(q.1.getD j []).length≤600:=by rw [g3,List.length_append];omega
          unfold gP
          rw [q1.s1 hkn,bS,q1.s2 hkn hjn,bS,aM (by simp only [List.length_nil];omega) (by simp only [List.length_nil];omega),bS,List.nil_append,ix [] (by omega),bS,aM (by rw [g5];simp;omega) (by rw [g5];simp;omega),bS,bS,Db (net:=⟨net.zw,net.ah,q.1,net.ak⟩) (by show j < q.1.length;omega) (by omega) (by show (q.1.getD j []).length≤1000;omega) (by omega),bS]
          refine ⟨_,rfl,?_,by show (q.2.set j _).length=n;rw [List.length_set];exact g2,?_,fun i hi=>?_,?_,fun i hi=>?_,fun i hi=>?_⟩
          · show (if _ then q.1.set j _ else q.1).length=n
            split
            · rw [List.length_set];exact g1
            · exact g1
          · show (if _ then q.1.set j _ else q.1).getD j []=_
            rw [Fa]
            split
            · rw [aL (by omega),if_pos rfl,g3,List.append_assoc]
            · rw [List.append_nil];exact g3
          · show (if _ then q.1.set j _ else q.1).getD i []=_
            split
            · rw [aL (by omega),if_neg (fun e=>hi e.symm)];exact g4 i hi
            · exact g4 i hi
          · show ((q.2.set j _).getD j []).length=_
            rw [aL (by omega),if_pos rfl,List.length_append,g5];rfl
          · show ((q.2.set j _).getD j []).getD i []=_
            rw [aL (by omega),if_pos rfl]
            by_cases g:i < k
            · rw [cy (by omega)];exact g6 i g
            · have:i=k:=by omega
              subst this
              exact c9 g5.symm
          · show (q.2.set j _).getD i []=_
            rw [aL (by omega),if_neg (fun e=>hi e.symm)];exact g7 i hi)
      rw [Nat.zero_add] at g3 g5 g6
      simp only at g1 g2 g3 g4 g5 g6 g7
      rw [e',bS]
      refine ⟨_,rfl,g1,g2,fun i hi=>?_,fun i hi=>?_,fun i hi=>?_,fun i hi=>?_⟩
      · by_cases g:i=j
        · subst g;exact g3
        · show v'.getD i []=_;rw [g4 i g];exact h3 i (by omega)
      · show v'.getD i []=_;rw [g4 i (by omega)];exact h4 i (by omega)
      · by_cases g:i=j
        · subst g;exact ⟨g5,g6⟩
        · show (i'.getD i []).length=n∧_
          simp only
          rw [g7 i g];exact h5 i (by omega)
      · show i'.getD i []=_;rw [g7 i (by omega)];exact h6 i (by omega))
  rw [Nat.zero_add] at h3 h5
  simp only at h1 h2 h3 h5
  rw [e,bS]
  simp only
  rw [bk (by omega) (by omega),bS]
  exact ⟨_,_,_,rfl,rfl,⟨q1,ql⟩,q2,h2,h5,h1,h3⟩
theorem nk {l:List Nat} {m:Nat} (hm:m≤1000):∃ r,dV l ((m:Nat):Int)=some r∧r.length=m∧∀ k,k < m→r.getD k 0=l.getD k 0:=by
  unfold dV
  rw [ck (by omega) (by omega) (by omega) (by omega),bS,Int.toNat_natCast]
  refine ⟨_,rfl,by unfold iK;simp;omega,fun k hk=>?_⟩
  unfold iK
  rw [List.length_replicate]
  by_cases g:k < l.length
  · rw [cy (by simp;omega),List.getD_eq_getElem?_getD,List.getElem?_take,if_pos (by omega),← List.getD_eq_getElem?_getD]
  · rw [mz (l:=l) (by omega),List.getD_eq_getElem?_getD,List.getElem?_append_right (by simp;omega),List.getElem?_drop]
    have:(min l.length m+(k - (l.take (min l.length m)).length)) < m:=by simp;omega
    rw [List.getElem?_replicate,if_pos this];rfl
end Pu

/- Plain laws of scenarios: what the reference calls valid the program calls valid, and the networks stand. -/
set_option linter.unusedVariables false
namespace Pu
open Gw Gl Sp
structure Va (w:ae) (n t:Nat):Prop extends Sc w n t where
  ord:∀ i,0 < i→i < w.af.length→w.af.getD (i - 1) 0 < w.af.getD i 0
  tl:w.ay.length=n
  tb:∀ i,i < n→∀ j,j < (w.ay.getD i []).length→(w.ay.getD i []).getD j 0 < w.S.P
  ts:∀ i,i < n→(w.ay.getD i []).length≤1000
  full:∀ x ∈ w.aa,0≤x.Round∧0≤x.To∧x.To≤n∧1≤x.Kind∧x.Kind≤4
theorem Fb {p:Nat} {l:List Int} {j:Nat} {x:Int} (hl:l[j]?=some x) (hx:5≤x∧x≤61):fU p l j=some (if p=2 ^ x.toNat - 1 then .fin x else .go ()):=by
  unfold fU
  obtain ⟨q,rfl⟩:∃ q:Nat,x=q:=⟨x.toNat,by omega⟩
  have hq:q≤61:=by omega
  have hu:uu ((q:Nat):Int)=q:=by unfold uu;omega
  have h2:2 ^ q≤2 ^ 61:=Nat.pow_le_pow_right (by decide) hq
  have h3:1≤2 ^ q:=Nat.one_le_two_pow
  rw [hl,bS,hu,bS,yX (by omega),bS,Nat.one_mul,Nat.mod_eq_of_lt (by omega),xl h3 (by omega),bS,Int.toNat_natCast]
  by_cases g:p=2 ^ q - 1
  · rw [zz g,cT,if_pos g]
  · rw [PD g,cF,if_neg g]
theorem Mk {p:Nat} {x:Int} (h:x ∈ ([5,7,13,17,19,31,61]:List Int)) (e:p=2 ^ x.toNat - 1):fX p:=by
  simp only [List.mem_cons,List.not_mem_nil,or_false] at h
  unfold fX
  rcases h with rfl | rfl | rfl | rfl | rfl | rfl | rfl <;> simp at e <;> omega
theorem Mb {p:Nat}:∃ b,gS p=some b∧(b=true→fX p):=by
  unfold gS jY
  have he:mD=some [5,7,13,17,19,31,61]:=rfl
  rw [he,bS]
  obtain ⟨o,e,ho⟩:=iq (body:=fun k1 (st:Unit)=>fU p [5,7,13,17,19,31,61] k1) (fun _ _=>True) (fun r=>fX p) (rem:=([5,7,13,17,19,31,61]:List Int).length - 0) (k:=0) (s:=()) trivial (fun j _ _ hj _=>by
    have hj':j < 7:=by simpa using hj
    obtain ⟨x,hx,hm⟩:∃ x,([5,7,13,17,19,31,61]:List Int)[j]?=some x∧x ∈ ([5,7,13,17,19,31,61]:List Int):=⟨_,List.getElem?_eq_getElem (by simpa using hj'),List.getElem_mem _⟩
    have hb:5≤x∧x≤61:=by
      simp only [List.mem_cons,List.not_mem_nil,or_false] at hm
      rcases hm with rfl | rfl | rfl | rfl | rfl | rfl | rfl <;> decide
    rw [Fb hx hb]
    refine ⟨_,rfl,?_⟩
    split
    · next g=>exact Mk hm g
    · trivial)
  rw [e]
  simp only [bS]
  cases o with
  | fin r=>rw [oF];simp only [bS];exact ⟨_,rfl,fun _=>ho⟩
  | go s=>rw [oG];simp only [bS];exact ⟨_,rfl,fun h=>by simp at h⟩
theorem LM {p:Nat} (hp:fX p):oL p=some true:=by
  rcases hp with rfl | rfl | rfl | rfl | rfl | rfl | rfl <;> decide +kernel
structure MI (s:aD) (n t:Nat):Prop where
  sup:fX s.P
  N:s.N=n
  T:s.T=t
  n4:4≤n
  n13:n≤13
  t1:1≤t
  t3:3*t < n
theorem Bt {s:aD}:∃ b,ic s=some b∧(b=true→∃ n t,MI s n t):=by
  unfold ic
  obtain ⟨b,e,hb⟩:=Mb (p:=s.P)
  rw [e,bS]
  cases b with
  | false=>rw [cF];exact ⟨_,rfl,fun h=>by cases h⟩
  | true =>
    rw [cT]
    have hp:=hb rfl
    by_cases h1:s.N ≥ 4
    · rw [dT h1,cT]
      by_cases h2:s.N≤13
      · rw [dT h2,cT,bS]
        by_cases h3:((uu s.N:Nat):Int) < ((s.P:Nat):Int)
        · rw [dT h3,cT]
          by_cases h4:s.T ≥ 1
          · rw [dT h4,cT]
            by_cases h5:s.T < s.N
            · rw [dT h5,cT,gE (by omega) (by omega),bS]
              refine ⟨_,rfl,fun h=>?_⟩
              have h6:=of_decide_eq_true h
              exact ⟨s.N.toNat,s.T.toNat,hp,by omega,by omega,by omega,by omega,by omega,by omega⟩
            · rw [dF h5,cF];exact ⟨_,rfl,fun h=>by cases h⟩
          · rw [dF h4,cF];exact ⟨_,rfl,fun h=>by cases h⟩
        · rw [dF h3,cF];exact ⟨_,rfl,fun h=>by cases h⟩
      · rw [dF h2,cF];exact ⟨_,rfl,fun h=>by cases h⟩
    · rw [dF h1,cF];exact ⟨_,rfl,fun h=>by cases h⟩
theorem FK {s:aD} {n t:Nat} (h:MI s n t):pk s=some true:=by
  have h1:=h.n4;have h2:=h.n13;have h3:=h.t1;have h4:=h.t3;have h5:=h.sup.lt
  unfold pk
  have hu:uu ((n:Nat):Int)=n:=by unfold uu;omega
  rw [LM h.sup,bS,cT,h.N,h.T,dT (by omega),cT,dT (by omega),cT,bS,hu,dT (by omega),cT,dT (by omega),cT,dT (by omega),cT,gE (by omega) (by omega),bS,dT (by omega)]
theorem JK {s:aD} {l:List Int}:∃ b,fj s l=some b∧(b=true→∃ n t,MI s n t∧l.length≤t∧(∀ x ∈ l,1≤x∧x≤n)∧∀ i,0 < i→i < l.length→l.getD (i - 1) 0 < l.getD i 0):=by
  unfold fj
  obtain ⟨b,e,hb⟩:=Bt (s:=s)
  rw [e,bS]
  cases b with
  | false=>rw [nF,cT,bS,cT];exact ⟨_,rfl,fun h=>by cases h⟩
  | true =>
    obtain ⟨n,t,par⟩:=hb rfl
    have hT:=par.T;have hN:=par.N;have h13:=par.n13;have h3:=par.t3
    rw [nT,cF,bS]
    by_cases g:l.length≤t
    · rw [dF (by omega),cF,Nat.sub_zero]
      obtain ⟨o,e,ho⟩:=iq (body:=fun k1 (st:Unit)=>fM s l k1) (fun k _=>∀ i,i < k→(1≤l.getD i 0∧l.getD i 0≤n)∧(0 < i→l.getD (i - 1) 0 < l.getD i 0)) (fun r=>r=false) (rem:=l.length) (k:=0) (s:=()) (fun i hi=>by omega) (fun k _ _ hk h=>by
        have hkl:k < l.length:=by omega
        unfold fM
        rw [ix 0 hkl,bS,hN]
        by_cases c1:l.getD k 0 < 1
        · rw [dT c1,cT];exact ⟨_,rfl,rfl⟩
        · rw [dF c1,cF]
          by_cases c2:l.getD k 0 > n
          · rw [dT c2,cT];exact ⟨_,rfl,rfl⟩
          · rw [dF c2,cF]
            by_cases c3:((k:Nat):Int) > 0
            · have e1:(((k:Nat):Int) - 1).toNat=k - 1:=by omega
              rw [dT c3,cT,cD (by omega) (by omega),bS,aX 0 (by omega) (by omega),bS,e1]
              by_cases c4:l.getD k 0≤l.getD (k - 1) 0
              · rw [dT c4,cT];exact ⟨_,rfl,rfl⟩
              · rw [dF c4,cF]
                refine ⟨_,rfl,fun i hi=>?_⟩
                by_cases g:i=k
                · subst g;exact ⟨⟨by omega,by omega⟩,fun _=>by omega⟩
                · exact h i (by omega)
            · rw [dF c3,cF]
              refine ⟨_,rfl,fun i hi=>?_⟩
              by_cases g:i=k
              · subst g;exact ⟨⟨by omega,by omega⟩,fun _=>by omega⟩
              · exact h i (by omega))
      rw [e,bS]
      cases o with
      | fin r=>rw [oF];exact ⟨_,rfl,fun h=>by rw [ho] at h;cases h⟩
      | go _ =>
        rw [oG]
        rw [Nat.zero_add] at ho
        refine ⟨_,rfl,fun _=>⟨n,t,par,g,fun x hx=>?_,fun i h1 h2=>(ho i h2).2 h1⟩⟩
        obtain ⟨i,hi,rfl⟩:=List.getElem_of_mem hx
        have:=(ho i hi).1
        rw [List.getD_eq_getElem?_getD,List.getElem?_eq_getElem hi] at this
        exact this
    · rw [dT (by omega),cT];exact ⟨_,rfl,fun h=>by cases h⟩
theorem Jq {s:aD} {l:List Int} {n t:Nat} (par:MI s n t) (hl:l.length≤t) (hr:∀ x ∈ l,1≤x∧x≤n) (ho:∀ i,0 < i→i < l.length→l.getD (i - 1) 0 < l.getD i 0):io s l=some true:=by
  have hT:=par.T;have hN:=par.N;have h13:=par.n13;have h3:=par.t3
  unfold io
  rw [FK par,bS,nT,cF,bS,hT,dF (by omega),cF,Nat.sub_zero]
  obtain ⟨o,e,hq⟩:=iq (body:=fun k1 (st:Unit)=>iS s l k1) (fun _ _=>True) (fun _=>False) (rem:=l.length) (k:=0) (s:=()) trivial (fun k _ _ hk _=>by
    have hkl:k < l.length:=by omega
    have hm:l.getD k 0 ∈ l:=by rw [List.getD_eq_getElem?_getD,List.getElem?_eq_getElem hkl];exact List.getElem_mem hkl
    have hx:=hr _ hm
    unfold iS
    rw [ix 0 hkl,bS,hN,dF (by omega),cF,dF (by omega),cF]
    by_cases c3:((k:Nat):Int) > 0
    · have e1:(((k:Nat):Int) - 1).toNat=k - 1:=by omega
      have:=ho k (by omega) hkl
      rw [dT c3,cT,cD (by omega) (by omega),bS,aX 0 (by omega) (by omega),bS,e1,dF (by omega),cF]
      exact ⟨_,rfl,trivial⟩
    · rw [dF c3,cF];exact ⟨_,rfl,trivial⟩)
  rw [e,bS]
  cases o with
  | fin r=>exact hq.elim
  | go _=>rw [oG]
/-- a valid deviation -/
def Dv (s:aD) (x:aO):Prop:=0≤x.Round∧0≤x.At∧0≤x.bF∧1≤x.From∧x.From≤s.N∧0≤x.To∧x.To≤s.N∧1≤x.Kind∧x.Kind≤4∧0≤x.Of∧x.Of≤s.N∧(x.Kind=3→1≤x.Of)
theorem bC {c:Prop} [Decidable c] {X:Option Bool} {Q:Prop} (h:c→∃ b,X=some b∧(b=true→Q)):∃ b,(bif decide c then X else some false)=some b∧(b=true→Q):=by
  by_cases g:c
  · rw [dT g,cT];exact h g
  · rw [dF g,cF];exact ⟨_,rfl,fun h=>by cases h⟩
theorem Ma {s:aD} {x:aO}:∃ b,gT s x=some b∧(b=true→Dv s x):=by
  unfold gT
  refine bC fun h1=>bC fun h2=>bC fun h3=>bC fun h4=>bC fun h5=>bC fun h6=>bC fun h7=>bC fun h8=>bC fun h9=>bC fun h10=>bC fun h11=>?_
  by_cases k:x.Kind=3
  · rw [qF k,cF]
    exact ⟨_,rfl,fun h=>⟨h1,h2,h3,h4,h5,h6,h7,h8,h9,h10,h11,fun _=>of_decide_eq_true h⟩⟩
  · rw [qT k,cT]
    exact ⟨_,rfl,fun h=>⟨h1,h2,h3,h4,h5,h6,h7,h8,h9,h10,h11,fun e=>absurd e k⟩⟩
theorem LL {s:aD} {x:aO} (h:Dv s x):sk s x=some true:=by
  obtain ⟨h1,h2,h3,h4,h5,h6,h7,h8,h9,h10,h11,h12⟩:=h
  unfold sk
  by_cases k:x.Kind=3
  · have:=h12 k
    rw [eT k,cT,bS,dT h1,cT,dT h2,cT,dT h3,cT,dT h4,cT,dT h5,cT,dT h6,cT,dT h7,cT,dT h8,cT,dT h9,cT,dT (by omega),cT,dT h11]
  · rw [eF k,cF,bS,dT h1,cT,dT h2,cT,dT h3,cT,dT h4,cT,dT h5,cT,dT h6,cT,dT h7,cT,dT h8,cT,dT h9,cT,dT (by omega),cT,dT h11]
theorem GF {p:Nat} {l:List Nat}:∃ b,jH p l=some b∧(b=true→Lt p l):=by
  unfold jH
  rw [Nat.sub_zero]
  obtain ⟨o,e,ho⟩:=iq (body:=fun k1 (st:Unit)=>jZ p l k1) (fun k _=>∀ i,i < k→l.getD i 0 < p) (fun r=>r=false) (rem:=l.length) (k:=0) (s:=()) (fun i hi=>by omega) (fun k _ _ hk h=>by
    unfold jZ
    rw [ix 0 (by omega),bS]
    by_cases g:l.getD k 0 < p
    · rw [dF (by omega),cF]
      refine ⟨_,rfl,fun i hi=>?_⟩
      by_cases e:i=k
      · subst e;exact g
      · exact h i (by omega)
    · rw [dT (by omega),cT];exact ⟨_,rfl,rfl⟩)
  rw [e,bS]
  cases o with
  | fin r=>rw [oF];exact ⟨_,rfl,fun h=>by rw [ho] at h;cases h⟩
  | go _=>rw [oG];exact ⟨_,rfl,fun _ i hi=>ho i (by omega)⟩
theorem JL {w:ae}:∃ b,du w=some b∧(b=true→∃ n t,MI w.S n t∧w.af.length≤t∧(∀ x ∈ w.af,1≤x∧x≤n)∧(∀ i,0 < i→i < w.af.length→w.af.getD (i - 1) 0 < w.af.getD i 0)∧w.ay.length=n∧(∀ i,i < w.aa.length→Dv w.S (w.aa.getD i default))∧∀ i,i < w.ay.length→Lt w.S.P (w.ay.getD i [])):=by
  unfold du
  obtain ⟨b,e,hb⟩:=Bt (s:=w.S)
  rw [e,bS]
  cases b with
  | false=>rw [nF,cT,bS,cT];exact ⟨_,rfl,fun h=>by cases h⟩
  | true =>
    rw [nT,cF]
    obtain ⟨b,e,hb⟩:=JK (s:=w.S) (l:=w.af)
    rw [e,bS]
    cases b with
    | false=>rw [nF,cT,bS,cT];exact ⟨_,rfl,fun h=>by cases h⟩
    | true =>
      obtain ⟨n,t,par,c1,c2,c3⟩:=hb rfl
      rw [nT,cF,bS]
      by_cases g:w.ay.length=n
      · rw [qF (by rw [g,par.N]),cF,Nat.sub_zero,Nat.sub_zero]
        obtain ⟨o,e,ho⟩:=iq (body:=fun k1 (st:Unit)=>fY w k1) (fun k _=>∀ i,i < k→Dv w.S (w.aa.getD i default)) (fun r=>r=false) (rem:=w.aa.length) (k:=0) (s:=()) (fun i hi=>by omega) (fun k _ _ hk h=>by
          unfold fY
          rw [ix default (by omega),bS]
          obtain ⟨b,e,hb⟩:=Ma (s:=w.S) (x:=w.aa.getD k default)
          rw [e,bS]
          cases b with
          | false=>rw [nF,cT];exact ⟨_,rfl,rfl⟩
          | true =>
            rw [nT,cF]
            refine ⟨_,rfl,fun i hi=>?_⟩
            by_cases e:i=k
            · subst e;exact hb rfl
            · exact h i (by omega))
        rw [e,bS]
        cases o with
        | fin r=>rw [oF];exact ⟨_,rfl,fun h=>by rw [ho] at h;cases h⟩
        | go _ =>
          rw [oG]
          obtain ⟨o,e,hq⟩:=iq (body:=fun k1 (st:Unit)=>fZ w k1) (fun k _=>∀ i,i < k→Lt w.S.P (w.ay.getD i [])) (fun r=>r=false) (rem:=w.ay.length) (k:=0) (s:=()) (fun i hi=>by omega) (fun k _ _ hk h=>by
            unfold fZ
            rw [ix [] (by omega),bS]
            obtain ⟨b,e,hb⟩:=GF (p:=w.S.P) (l:=w.ay.getD k [])
            rw [e,bS]
            cases b with
            | false=>rw [nF,cT];exact ⟨_,rfl,rfl⟩
            | true =>
              rw [nT,cF]
              refine ⟨_,rfl,fun i hi=>?_⟩
              by_cases e:i=k
              · subst e;exact hb rfl
              · exact h i (by omega))
          rw [e,bS]
          cases o with
          | fin r=>rw [oF];exact ⟨_,rfl,fun h=>by rw [hq] at h;cases h⟩
          | go _=>rw [oG];exact ⟨_,rfl,fun _=>⟨n,t,par,c1,c2,c3,g,fun i hi=>ho i (by omega),fun i hi=>hq i (by omega)⟩⟩
      · rw [qT (by rw [par.N];omega),cT];exact ⟨_,rfl,fun h=>by cases h⟩
theorem Va.par {w:ae} {n t:Nat} (v:Va w n t):MI w.S n t:=⟨v.sup,v.N,v.T,v.n4,v.n13,v.t1,v.t3⟩
end Pu

/- Plain laws of the reference's small functions, and of opening shares. -/
set_option linter.unusedVariables false
namespace Pu
open Gw Gl Sp Lean.Grind
theorem Ed {p a b:Nat} (hp:fX p) (ha:a < p) (hb:b < 18446744073709551616):nj p a b=some (a*b % p):=by
  have hl:=hp.lt
  unfold nj
  obtain ⟨r,e,hr⟩:=ny (step:=fun (st:Nat × Nat × Nat)=>jc p st.1 st.2.1 st.2.2) (fun st=>st.1 < p∧st.2.1 < 18446744073709551616∧st.2.2 < p∧(st.2.2+st.1*st.2.1) % p=a*b % p) (fun r=>r=a*b % p) (fun st=>st.2.1) (fun st ⟨h1,h2,h3,h4⟩=>by
    obtain ⟨x,m,o⟩:=st
    replace h1:x < p:=h1
    replace h2:m < 18446744073709551616:=h2
    replace h3:o < p:=h3
    replace h4:(o+x*m) % p=a*b % p:=h4
    show ∃ q,jc p x m o=some q∧_
    unfold jc
    by_cases c:m=0
    · subst c
      rw [dF (by omega),cF]
      refine ⟨_,rfl,?_⟩
      show o=_
      rw [← h4,Nat.mul_zero,Nat.add_zero,Nat.mod_eq_of_lt h3]
    · have r2:∀ y,yw y 2=some (y % 2):=fun y=>by unfold yw;rw [if_neg (by decide)]
      have rp:∀ y,yw y p=some (y % p):=fun y=>by unfold yw;rw [if_neg (by omega)]
      have d2:HO m 2=some (m / 2):=by unfold HO;rw [if_neg (by decide),Nat.mod_eq_of_lt (by omega)]
      have a1:nD o x=o+x:=Nat.mod_eq_of_lt (by omega)
      have a2:nD x x=x+x:=Nat.mod_eq_of_lt (by omega)
      have hx:(x+x)*(m / 2)=x*(2*(m / 2)):=by rw [← Nat.two_mul,Nat.mul_assoc,Nat.mul_left_comm,Nat.mul_left_comm]
      rw [dT (by omega),cT,r2,bS]
      by_cases g:m % 2=1
      · rw [eT (by omega),cT,a1,bS,rp,bS,a2,bS,rp,bS,d2,bS]
        refine ⟨_,rfl,⟨Nat.mod_lt _ hp.pos,by show m / 2 < _;omega,Nat.mod_lt _ hp.pos,?_⟩,by show m / 2 < m;omega⟩
        show ((o+x) % p+(x+x) % p*(m / 2)) % p=_
        rw [← h4,Nat.add_mod,Nat.mul_mod,Nat.mod_mod,Nat.mod_mod,← Nat.mul_mod,← Nat.add_mod,hx]
        congr 1
        have:m=1+2*(m / 2):=by omega
        conv=>rhs;rw [this,Nat.mul_add,Nat.mul_one]
        omega
      · rw [eF (by omega),cF,a2,bS,rp,bS,d2,bS]
        refine ⟨_,rfl,⟨Nat.mod_lt _ hp.pos,by show m / 2 < _;omega,h3,?_⟩,by show m / 2 < m;omega⟩
        show (o+(x+x) % p*(m / 2)) % p=_
        rw [← h4,Nat.add_mod,Nat.mul_mod,Nat.mod_mod,← Nat.mul_mod,← Nat.add_mod,hx]
        congr 3
        omega)
    (s:=(a,b,0)) ⟨ha,hb,hp.pos,by simp⟩ hb
  rw [e,bS,hr]
theorem Ec {p a b:Nat} (hp:fX p) (h:a+b < 18446744073709551616):ni p a b=some ((a+b) % p):=by
  have hl:=hp.lt
  unfold ni
  have a1:nD a b=a+b:=Nat.mod_eq_of_lt h
  rw [a1,bS]
  unfold yw
  rw [if_neg (by omega),bS]
section
variable {p:Nat} [NeZero p]
end
theorem yN {w:List Nat} (h:w.length≤1000):∃ pts,dX w=some pts∧pts.length=w.length∧∀ i,i < w.length→pts.getD i default=⟨i+1,w.getD i 0⟩:=by
  unfold dX
  rw [Nat.sub_zero]
  obtain ⟨l,e,h1,h2⟩:=bo (body:=fun k1 (st:(List aJ))=>j8 w k1 st) (rem:=w.length) (k:=0) (s:=([]:List aJ)) (fun k l=>l.length=k∧∀ i,i < k→l.getD i default=⟨i+1,w.getD i 0⟩) ⟨rfl,fun i hi=>by omega⟩ (fun k l _ hk ⟨h1,h2⟩=>by
    unfold j8
    have hu:uu (((k:Nat):Int)+1)=k+1:=by unfold uu;omega
    rw [ix 0 (by omega),bS,bk (by omega) (by omega),bS,hu,bS,aM (by rw [h1];simp;omega) (by rw [h1];simp;omega),bS]
    refine ⟨_,rfl,by simp [h1],fun i hi=>?_⟩
    by_cases g:i < k
    · rw [cy (by omega)];exact h2 i g
    · have:i=k:=by omega
      subst this
      rw [c9 h1.symm])
  rw [Nat.zero_add] at h1 h2
  rw [e,bS]
  exact ⟨_,rfl,h1,h2⟩
theorem GA {p:Nat} (hp:fX p) {w:List Nat} {pts:List aJ} (hw:Lt p w) (hl:w.length≤13) (h1:pts.length=w.length) (h2:∀ i,i < w.length→pts.getD i default=⟨i+1,w.getD i 0⟩):MJ p pts:=by
  have hlt:=hp.lt
  refine ⟨fun i hi=>?_,fun i hi=>?_,fun i hi j hj=>?_⟩
  · rw [h2 i (by omega)];show i+1 < p;omega
  · rw [h2 i (by omega)];exact hw i (by omega)
  · rw [h2 i (by omega),h2 j (by omega)];show j+1≠i+1;omega
theorem xm {l1:List Int}:∀ {l2:List Int},l1.Nodup→(∀ x ∈ l1,x ∈ l2)→l1.length≤l2.length:=by
  induction l1 with
  | nil=>intro l2 _ _;simp
  | cons x t ih =>
    intro l2 hn hs
    have hx:x ∈ l2:=hs x (by simp)
    have hl2:=(List.perm_cons_erase hx).length_eq
    rw [List.nodup_cons] at hn
    have:=ih (l2:=l2.erase x) hn.2 (fun y hy=>(List.mem_erase_of_ne (by intro e;subst e;exact hn.1 hy)).2 (hs y (by simp [hy])))
    simp at hl2 ⊢;omega
/-- what party j heard of the k-th words -/
def wd (all:List (List (List Nat))) (n j k:Nat):List Nat:=(List.range n).map fun i=>((all.getD i []).getD j []).getD k 0
theorem CE {all:List (List (List Nat))} {n j k:Nat}:(wd all n j k).length=n:=by simp [wd]
theorem CC {all:List (List (List Nat))} {n j k i:Nat} (hi:i < n):(wd all n j k).getD i 0=((all.getD i []).getD j []).getD k 0:=by
  unfold wd;simp [List.getD_eq_getElem?_getD,hi]
/-- telling lists to all, and hearing them -/
theorem JP {net:ai} {n t L m:Nat} (s:Sc net.zw n t) {lists:List (List Nat)} (h1:lists.length=n) (h2:∀ i,i < n→Lt net.zw.S.P (lists.getD i [])∧(lists.getD i []).length≤L) (hL:L≤1000) (hm:m≤1000) (hv:net.au.length=n) (hb:∀ j,j < n→(net.au.getD j []).length≤500) (hr:0≤net.ah∧net.ah≤1000) :
    ∃ all heard views,lc net lists ((m:Nat):Int)=some (heard,net.ah+1,views)∧Sq net.zw.S.P n L all∧(∀ i,i < n→(((i:Nat):Int)+1) ∉ net.zw.af→∀ j,j < n→(all.getD i []).getD j []=lists.getD i []) ∧
      heard.length=n∧(∀ j,j < n→(heard.getD j []).length=m∧∀ k,k < m→(heard.getD j []).getD k []=wd all n j k)∧views.length=n∧∀ j,j < n→views.getD j []=net.au.getD j []++AV net.ah all j n:=by
  have h13:=s.n13
  have hp:=s.sup
  unfold lc
  rw [h1,ck (by omega) (by omega) (by omega) (by omega),bS,Int.toNat_natCast,Nat.sub_zero]
  obtain ⟨out,e1,o1,o2,_⟩:=bo (body:=fun k1 (st:(List (List (List Nat))))=>lu lists k1 st) (rem:=n) (k:=0) (s:=List.replicate n [])
    (fun k l=>l.length=n∧(∀ i,i < k→l.getD i []=List.replicate n (lists.getD i []))∧∀ i,k≤i→l.getD i []=[]) ⟨by simp,fun i hi=>by omega,fun i _=>by by_cases g:i < n <;> simp [List.getD_eq_getElem?_getD,g]⟩ (fun k l _ hk ⟨g1,g2,g3⟩=>by
      have hkn:k < n:=by omega
      unfold lu
      rw [ix [] (by omega),bS,h1,Nat.sub_zero]
      obtain ⟨l',e',q1,q2,q3⟩:=bo (body:=fun k2 (st:(List (List (List Nat))))=>lv k (lists.getD k []) k2 st) (rem:=n) (k:=0) (s:=l)
        (fun q l'=>l'.length=n∧l'.getD k []=List.replicate q (lists.getD k [])∧∀ i,i≠k→l'.getD i []=l.getD i []) ⟨g1,by rw [g3 k (Nat.le_refl k)];rfl,fun _ _=>rfl⟩ (fun q l' _ hq ⟨q1,q2,q3⟩=>by
          unfold lv
          rw [ix [] (by omega),bS,q2,aM (by simp;omega) (by simp;omega),bS,bS]
          refine ⟨_,rfl,by rw [List.length_set];exact q1,by rw [aL (by omega),if_pos rfl,← List.replicate_succ'],fun i hi=>by rw [aL (by omega),if_neg (fun e=>hi e.symm)];exact q3 i hi⟩)
      rw [e',bS]
      rw [Nat.zero_add] at q2
      refine ⟨_,rfl,q1,fun i hi=>?_,fun i hi=>?_⟩
      · by_cases g:i=k
        · subst g;exact q2
        · rw [q3 i g];exact g2 i (by omega)
      · rw [q3 i (by omega)];exact g3 i (by omega))
  rw [Nat.zero_add] at o2
  have sq:Sq net.zw.S.P n L out:=⟨o1,fun i hi=>by rw [o2 i hi];simp,fun i hi j hj=>by
    have:(out.getD i []).getD j []=lists.getD i []:=by rw [o2 i hi];simp [List.getD_eq_getElem?_getD,hj]
    rw [this];exact h2 i hi⟩
  obtain ⟨all,inn,views,_,es,⟨s1,_⟩,s2,s3,s4,s5,s6⟩:=Ab s sq hL hv hb hr
  rw [e1,bS,es,bS]
  simp only
  rw [s3,ck (by omega) (by omega) (by omega) (by omega),bS,Int.toNat_natCast,Nat.sub_zero]
  obtain ⟨heard,e2,t1,t2,_⟩:=bo (body:=fun k3 (st:(List (List (List Nat))))=>lx ((m:Nat):Int) (inn,net.ah+1,views) k3 st) (rem:=n) (k:=0) (s:=List.replicate n [])
    (fun j l=>l.length=n∧(∀ i,i < j→(l.getD i []).length=m∧∀ k,k < m→(l.getD i []).getD k []=wd all n i k)∧True) ⟨by simp,fun i hi=>by omega,trivial⟩ (fun j l _ hj ⟨t1,t2,_⟩=>by
      have hjn:j < n:=by omega
      obtain ⟨i1,i2⟩:=s4 j hjn
      unfold lx
      rw [ck (by omega) (by omega) (by omega) (by omega),bS,Int.toNat_natCast,ix [] (by omega),bS,bS]
      simp only
      rw [ix [] (by omega),bS,i1,Nat.sub_zero]
      obtain ⟨l',e',q1,q2,q3,q4⟩:=bo (body:=fun k4 (st:(List (List (List Nat))))=>ly ((m:Nat):Int) j (inn.getD j []) k4 st) (rem:=n) (k:=0) (s:=l.set j (List.replicate m []))
        (fun i l'=>l'.length=n∧(l'.getD j []).length=m∧(∀ k,k < m→(l'.getD j []).getD k []=wd all i j k)∧∀ q,q≠j→l'.getD q []=l.getD q []) ⟨by rw [List.length_set];exact t1,by rw [aL (by omega),if_pos rfl];simp,fun k hk=>by rw [aL (by omega),if_pos rfl];simp [wd,List.getD_eq_getElem?_getD,hk],fun q hq=>by rw [aL (by omega),if_neg (fun e=>hq e.symm)]⟩ (fun i l' _ hi ⟨q1,q2,q3,q4⟩=>by
          have hin:i < n:=by omega
          unfold ly
          rw [ix [] (by omega),bS,i2 i hin]
          obtain ⟨r,er,r1,r2⟩:=nk (l:=(all.getD i []).getD j []) (m:=m) (by omega)
          rw [er,bS,r1,Nat.sub_zero]
          obtain ⟨l2,e2,u1,u2,u3,u4⟩:=bo (body:=fun k5 (st:(List (List (List Nat))))=>lz j r k5 st) (rem:=m) (k:=0) (s:=l')
            (fun k l2=>l2.length=n∧(l2.getD j []).length=m∧(∀ q,q < m→(l2.getD j []).getD q []=if q < k then wd all i j q++[r.getD q 0] else wd all i j q)∧∀ q,q≠j→l2.getD q []=l.getD q []) ⟨q1,q2,fun q hq=>by rw [if_neg (by omega)];exact q3 q hq,q4⟩ (fun k l2 _ hk ⟨u1,u2,u3,u4⟩=>by
              have hkm:k < m:=by omega
              unfold lz
              have hwl:=CE (all:=all) (n:=i) (j:=j) (k:=k)
              rw [ix 0 (by omega),bS,ix [] (by omega),bS,ix [] (by omega),bS,u3 k hkm,if_neg (by omega),aM (by rw [hwl];simp;omega) (by rw [hwl];simp;omega),bS,bS,bS]
              refine ⟨_,rfl,by rw [List.length_set];exact u1,by rw [aL (by omega),if_pos rfl,List.length_set];exact u2,fun q hq=>?_,fun q hq=>by rw [aL (by omega),if_neg (fun e=>hq e.symm)];exact u4 q hq⟩
              rw [aL (by omega),if_pos rfl,aL (by omega)]
              by_cases g:k=q
              · subst g;rw [if_pos rfl,if_pos (by omega)]
              · rw [if_neg g,u3 q hq]
                by_cases g2:q < k
                · rw [if_pos g2,if_pos (by omega)]
                · rw [if_neg g2,if_neg (by omega)])
          rw [e2,bS]
          refine ⟨_,rfl,u1,u2,fun k hk=>?_,u4⟩
          rw [u3 k hk,if_pos (by omega),r2 k hk]
          unfold wd
          rw [List.range_succ,List.map_append];rfl)
      rw [e',bS]
      rw [Nat.zero_add] at q3
      refine ⟨_,rfl,q1,fun i hi=>?_,trivial⟩
      by_cases g:i=j
      · subst g;exact ⟨q2,q3⟩
      · rw [q4 i g];exact t2 i (by omega))
  rw [Nat.zero_add] at t2
  rw [e2,bS]
  refine ⟨all,heard,views,rfl,s1,fun i hi hc j hj=>?_,t1,t2,s5,s6⟩
  rw [s2 i hi hc,o2 i hi];simp [List.getD_eq_getElem?_getD,hj]
end Pu
