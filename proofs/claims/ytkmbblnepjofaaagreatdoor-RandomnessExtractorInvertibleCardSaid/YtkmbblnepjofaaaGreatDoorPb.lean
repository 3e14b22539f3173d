/- Plain laws of the field's functions. -/
import Derived.Test.YtkmbblnepjofaaaGreatDoorX6p
import Derived.Test.YtkmbblnepjofaaaGreatDoorWl
import Derived.Test.YtkmbblnepjofaaaGreatDoorSp
set_option linter.unusedVariables false
namespace Pu
open Gw Gl Sp
theorem zz {a b:Nat} (h:a=b):(((a:Nat):Int) == ((b:Nat):Int))=true:=eT (by rw [h])
theorem G7 {a b:Nat} (h:a≠b):(((a:Nat):Int) == ((b:Nat):Int))=false:=eF (by omega)
theorem z4 {p:Nat} (hp:iq p):oB p=some (mL p):=by
  rcases hp with rfl | rfl | rfl | rfl | rfl | rfl | rfl <;> decide +kernel
theorem tS {a b:Nat} (ha:a < 18446744073709551616) (hb:b < 18446744073709551616):rz a b=a &&& b:=by
  unfold rz;rw [Nat.mod_eq_of_lt ha,Nat.mod_eq_of_lt hb]
theorem po {a q:Nat} (hq:q≤64):pY a ((q:Nat):Int)=some (a / 2 ^ q):=by
  unfold pY
  rw [if_neg (by omega)]
  simp [Nat.min_eq_left hq]
theorem tJ {a q:Nat} (hq:q≤64):wt a ((q:Nat):Int)=some (a*2 ^ q % 18446744073709551616):=by
  unfold wt
  rw [if_neg (by omega)]
  simp [Nat.min_eq_left hq]
theorem sf {a b:Nat} (h:b≤a) (ha:a < 18446744073709551616):te a b=a - b:=by unfold te;omega
theorem xJ {p h l:Nat} (hp:iq p) (hh:h < 18446744073709551616) (hl:l < 18446744073709551616) (c:h≠0 ∨ p < l):eB p (mL p) h l=some (.go (nh p h l,nl p h l)):=by
  have hq:=hp.q
  have hpl:=hp.lt
  unfold eB
  have hx:(bif ((h:Nat):Int) != (0:Int) then some true else some (decide (((l:Nat):Int) > ((p:Nat):Int))))=some true:=by
    by_cases h0:h=0
    · subst h0
      rw [qF (by simp),cF,dT (by omega)]
    · rw [qT (by omega),cT]
  rw [hx]
  simp only [bS,cT]
  rw [po (by omega),bS,sf (by omega) (by omega),tJ (by omega)]
  simp only [bS]
  rw [po (by omega)]
  simp only [bS]
  have e1:rz l p=fm p l:=by rw [tS hl (by omega),C7 hp hl]
  have e2:EY (l / 2 ^ mL p) (h*2 ^ (64 - mL p) % 18446744073709551616)=fl p h l:=by
    unfold EY
    rw [Nat.mod_eq_of_lt (Nat.lt_of_le_of_lt (Nat.div_le_self ..) hl),Nat.mod_mod]
    exact EZ hp hl
  rw [e1,e2]
  have e3:nv (h / 2 ^ mL p) (Ap (fl p h l) (fm p l))=nh p h l:=by
    have:=ET (p:=p) hp hh hl
    show (fh p h+nc p h l) % _=_
    exact Nat.mod_eq_of_lt this
  rw [e3];rfl
theorem yM {p h l:Nat} (c:¬ (h≠0 ∨ p < l)):eB p (mL p) h l=some (.fin l):=by
  unfold eB
  have h0:h=0:=by omega
  subst h0
  rw [qF (by simp),cF,dF (by omega)]
  simp only [bS,cF]
theorem xe {p h l:Nat} (hp:iq p) (hh:h < 4611686018427387904) (hl:l < 18446744073709551616):j5 p h l=some ((h*18446744073709551616+l) % p):=by
  unfold j5
  rw [z4 hp,bS]
  obtain ⟨r,e,hr⟩:=sa (step:=fun (st:Nat × Nat)=>eB p (mL p) st.1 st.2)
    (fun st=>st.1 < 4611686018427387904∧st.2 < 18446744073709551616∧(st.1*18446744073709551616+st.2) % p=(h*18446744073709551616+l) % p)
    (fun r=>r≤p∧r % p=(h*18446744073709551616+l) % p) (fun st=>C8 st.1 st.2) (fun st ⟨h1,h2,h3⟩=>by
      by_cases c:st.1≠0 ∨ p < st.2
      · refine ⟨_,xJ hp (by omega) h2 c,⟨?_,CM,?_⟩,AB hp h1 h2 c⟩
        · by_cases h0:st.1=0
          · rw [h0]
            show nh p 0 st.2 < _
            rw [(ze hp h2 (by omega)).1];omega
          · have:=zb hp (by omega) h2 h0
            show nh p st.1 st.2 < _
            omega
        · exact yN hp h3
      · refine ⟨_,yM c,?_,?_⟩
        · show st.2≤p;omega
        · show st.2 % p=_
          rw [← h3]
          have:st.1=0:=by omega
          rw [this];simp) (s:=(h,l)) ⟨hh,hl,rfl⟩ (C9 hh hl)
  rw [e,bS]
  by_cases g:r=p
  · subst g
    rw [zz rfl,cT,← hr.2,Nat.mod_self]
  · rw [G7 g,cF,← hr.2,Nat.mod_eq_of_lt (by omega)]
theorem DG {a b:Nat} (ha:a < 18446744073709551616) (hb:b < 18446744073709551616):io a b=some (a*b / 18446744073709551616,a*b % 18446744073709551616):=by
  unfold io
  have h32:∀ x,x < 18446744073709551616→rz x 4294967295=x % 4294967296:=fun x hx=>by
    rw [tS hx (by omega)];exact Nat.and_two_pow_sub_one_eq_mod x 32
  have s32:∀ x,pY x (32:Int)=some (x / 4294967296):=fun x=>po (q:=32) (by omega)
  have l1:∀ x y,nv x y < 18446744073709551616:=fun x y=>Nat.mod_lt _ (by decide)
  simp only [bS,s32,h32 a ha,h32 b hb,h32 _ (l1 _ _)]
  have m:=ES a b
  simp only at m
  have ha1:a / 4294967296 < 4294967296:=by omega
  have hb1:b / 4294967296 < 4294967296:=by omega
  have ha0:a % 4294967296 < 4294967296:=Nat.mod_lt _ (by decide)
  have hb0:b % 4294967296 < 4294967296:=Nat.mod_lt _ (by decide)
  have c00:=xi ha0 hb0
  have c10:=xi ha1 hb0
  have c01:=xi ha0 hb1
  have c11:=xi ha1 hb1
  have hi:=DI ha hb
  have k1:rM (a % 4294967296) (b % 4294967296)=a % 4294967296*(b % 4294967296):=Nat.mod_eq_of_lt (by omega)
  have k2:rM (a / 4294967296) (b % 4294967296)=a / 4294967296*(b % 4294967296):=Nat.mod_eq_of_lt (by omega)
  have k3:rM (a % 4294967296) (b / 4294967296)=a % 4294967296*(b / 4294967296):=Nat.mod_eq_of_lt (by omega)
  have k4:rM (a / 4294967296) (b / 4294967296)=a / 4294967296*(b / 4294967296):=Nat.mod_eq_of_lt (by omega)
  rw [k1,k2,k3,k4]
  generalize a % 4294967296*(b % 4294967296)=A at *
  generalize a / 4294967296*(b % 4294967296)=B at *
  generalize a % 4294967296*(b / 4294967296)=C at *
  generalize a / 4294967296*(b / 4294967296)=D at *
  have k5:nv B (A / 4294967296)=B+A / 4294967296:=Nat.mod_eq_of_lt (by omega)
  rw [k5]
  have k6:nv ((B+A / 4294967296) % 4294967296) C=(B+A / 4294967296) % 4294967296+C:=Nat.mod_eq_of_lt (by omega)
  rw [k6]
  have k7:nv D ((B+A / 4294967296) / 4294967296)=D+(B+A / 4294967296) / 4294967296:=Nat.mod_eq_of_lt (by omega)
  rw [k7]
  have k8:nv (D+(B+A / 4294967296) / 4294967296) (((B+A / 4294967296) % 4294967296+C) / 4294967296)=D+(B+A / 4294967296) / 4294967296+((B+A / 4294967296) % 4294967296+C) / 4294967296:=Nat.mod_eq_of_lt (by omega)
  rw [k8,m]
  rfl
theorem nE {p a b:Nat} (hp:iq p) (ha:a < p) (hb:b < p):cC p a b=some (a*b % p):=by
  have hl:=hp.lt
  unfold cC
  rw [DG (by omega) (by omega),bS]
  have h1:a*b≤2305843009213693951*2305843009213693951:=Nat.mul_le_mul (by omega) (by omega)
  have h2:a*b / 18446744073709551616 < 4611686018427387904:=by omega
  have h3:a*b % 18446744073709551616 < 18446744073709551616:=Nat.mod_lt _ (by decide)
  rw [xe hp h2 h3]
  simp only [bS]
  congr 2
  have:=Nat.div_add_mod (a*b) 18446744073709551616
  rw [Nat.mul_comm] at this
  exact this
theorem ym {p a b:Nat} (hp:iq p) (h:a+b < 18446744073709551616):fX p a b=some ((a+b) % p):=by
  unfold fX
  have:nv a b=a+b:=Nat.mod_eq_of_lt h
  rw [this]
  simp only [bS]
  rw [xe hp (by decide) h]
  simp only [bS,Nat.zero_mul,Nat.zero_add]
theorem y9 {p a:Nat} (hp:iq p) (h:a < p):j3 p a=some ((p - a) % p):=by
  have hl:=hp.lt
  unfold j3
  by_cases g:a=0
  · subst g;rw [eT (by simp),cT];simp
  · rw [eF (by omega),cF,sf (by omega) (by omega)]
    simp only [bS]
    rw [Nat.mod_eq_of_lt (by omega)]
theorem wu {p a b:Nat} (hp:iq p) (ha:a < p) (hb:b < p):j4 p a b=some ((a+(p - b) % p) % p):=by
  have hl:=hp.lt
  have:=Nat.mod_lt (p - b) hp.pos
  unfold j4
  rw [y9 hp hb,bS,ym hp (by omega),bS]
theorem DO {p a n:Nat} (hp:iq p) (ha:a < p) (hn:n < 18446744073709551616):pe p a n=some (a ^ n % p):=by
  have hl:=hp.lt
  unfold pe
  obtain ⟨r,e,hr⟩:=sa (step:=fun (st:Nat × Nat × Nat)=>ji p st.1 st.2.1 st.2.2)
    (fun st=>st.1 < p∧st.2.1 < 18446744073709551616∧st.2.2 < p∧st.2.2*st.1 ^ st.2.1 % p=a ^ n % p)
    (fun r=>r=a ^ n % p) (fun st=>st.2.1) (fun st ⟨h1,h2,h3,h4⟩=>by
      obtain ⟨x,m,o⟩:=st
      simp only at h1 h2 h3 h4
      unfold ji
      by_cases c:m=0
      · subst c
        rw [dF (by simp),cF]
        refine ⟨_,rfl,?_⟩
        show o=_
        rw [← h4];simp [Nat.mod_eq_of_lt h3]
      · rw [dT (by simp;omega),cT]
        have a1:rz m 1=m % 2:=by rw [tS h2 (by decide)];exact Nat.and_two_pow_sub_one_eq_mod m 1
        have s1:pY m (1:Int)=some (m / 2):=po (q:=1) (by omega)
        rw [bS,a1]
        by_cases g:m % 2=1
        · rw [eT (by omega),cT,nE hp h3 h1,bS,nE hp h1 h1,bS,s1,bS]
          exact ⟨_,rfl,⟨Nat.mod_lt _ hp.pos,by show m / 2 < _;omega,Nat.mod_lt _ hp.pos,pow_odd h4 g⟩,by show m / 2 < m;omega⟩
        · rw [eF (by omega),cF,nE hp h1 h1,bS,s1,bS]
          exact ⟨_,rfl,⟨Nat.mod_lt _ hp.pos,by show m / 2 < _;omega,h3,pow_even h4 (by omega)⟩,by show m / 2 < m;omega⟩)
    (s:=(a,n,1)) ⟨ha,hn,(show (1:Nat) < p by omega),by simp⟩ hn
  rw [e,bS,hr]
theorem yX {p a:Nat} (hp:iq p) (ha:a < p) (h0:a≠0):hG p a=some (Cc p a (p - 2),0):=by
  have hl:=hp.lt
  unfold hG
  rw [eF (by omega),cF,sf (by omega) (by omega)]
  simp only [bS]
  rw [DO hp ha (by omega),bS]
  rfl
theorem wm {p a b:Nat} [NeZero p] (hb:b < p):o p ((a+(p - b) % p) % p)=o p a - o p b:=by
  rw [rv,zk,rv,EV (by omega),DJ];grind
end Pu

/- Plain laws of the elimination. -/
set_option linter.unusedVariables false
namespace Pu
open Gw Gl Sp Lean.Grind
structure qI (p h n:Nat) (l:List (List Nat)):Prop where
  len:l.length=h
  row:∀ i,i < h→(l.getD i []).length=n
  lt:∀ i,i < h→∀ j,j < n→(l.getD i []).getD j 0 < p
def G (p:Nat) [NeZero p] (l:List (List Nat)) (i j:Nat):Fin p:=o p ((l.getD i []).getD j 0)
theorem uY {l:List Nat} (h:l.length≤1000):bj l=some l:=by
  unfold bj
  rw [ei (by simp;omega) (by simp;omega),bS,List.nil_append]
theorem xB {l:List (List Nat)} (h:l.length≤1000):bg l=some l:=by
  unfold bg
  rw [ei (by simp;omega) (by simp;omega),bS,List.nil_append]
theorem td {α:Type} {l:List α} {k:Nat} {d:α} (h:k < l.length):l.set k (l.getD k d)=l:=by
  apply List.ext_getElem?
  intro i
  rw [List.getElem?_set]
  split
  · next e =>
    subst e
    simp [h]
  · rfl
theorem qI.some {p h n i:Nat} {l:List (List Nat)} (m:qI p h n l) (hi:i < h):l[i]?=some (l.getD i []):=ix [] (by rw [m.len];exact hi)
theorem rd {p h n i j:Nat} {l:List (List Nat)} (m:qI p h n l) (hi:i < h) (hj:j < n):(l.getD i [])[j]?=some ((l.getD i []).getD j 0):=ix 0 (by rw [m.row i hi];exact hj)
theorem qI.setRow {p h n i:Nat} {l:List (List Nat)} {r:List Nat} (m:qI p h n l) (hi:i < h) (hl:r.length=n) (hr:∀ j,j < n→r.getD j 0 < p):qI p h n (l.set i r):=by
  have hil:i < l.length:=by rw [m.len];exact hi
  refine ⟨by rw [List.length_set];exact m.len,fun k hk=>?_,fun k hk j hj=>?_⟩
  · rw [dx hil];split
    · exact hl
    · exact m.row k hk
  · rw [dx hil];split
    · exact hr j hj
    · exact m.lt k hk j hj
section
variable {p:Nat} [NeZero p] {h n:Nat}
/-- the pivot's row is scaled -/
theorem zK (hp:iq p) {l8:List (List Nat)} {l5:List Int} {u:Nat} {e:Int} (m:qI p h n l8) (hr:l5.length < h) (hu:u < p) :
    ∃ l,ea (fun k3 (st:(List (List Nat)))=>gJ p l5 (l8.getD l5.length []) (u,e) k3 st) n 0 l8=some l∧qI p h n l∧(∀ i,i < h→i≠l5.length→l.getD i []=l8.getD i [])∧∀ j,j < n→G p l l5.length j=o p u*G p l8 l5.length j:=by
  have hrl:=m.row _ hr
  obtain ⟨l,e,m1,h1,h2,_⟩:=jz (body:=fun k3 (st:(List (List Nat)))=>gJ p l5 (l8.getD l5.length []) (u,e) k3 st) (rem:=n) (k:=0) (s:=l8)
    (fun k l=>qI p h n l∧(∀ i,i < h→i≠l5.length→l.getD i []=l8.getD i [])∧(∀ j,j < k→j < n→G p l l5.length j=o p u*G p l8 l5.length j)∧(∀ j,k≤j→(l.getD l5.length []).getD j 0=(l8.getD l5.length []).getD j 0))
    ⟨m,fun _ _ _=>rfl,fun j hj=>by omega,fun _ _=>rfl⟩ (fun k l _ hk ⟨m1,h1,h2,h3⟩=>by
      have hk':k < n:=by omega
      unfold gJ
      rw [rd m hr hk',bS,m1.some hr,bS,rd m1 hr hk',bS,nE hp hu (m1.lt _ hr _ hk'),bS,bS,bS]
      have hrl1:=m1.row _ hr
      have hll:l5.length < l.length:=by rw [m1.len];exact hr
      refine ⟨_,rfl,m1.setRow hr (by rw [List.length_set];exact hrl1) (fun j hj=>?_),fun i hi hne=>?_,fun j hj hjn=>?_,fun j hj=>?_⟩
      · rw [dx (by rw [hrl1];exact hk')];split
        · exact Nat.mod_lt _ hp.pos
        · exact m1.lt _ hr _ hj
      · rw [dx hll,if_neg (fun e=>hne e.symm)];exact h1 i hi hne
      · show o p (((l.set _ _).getD l5.length []).getD j 0)=_
        rw [dx hll,if_pos rfl,dx (by rw [hrl1];exact hk')]
        by_cases g:k=j
        · subst g
          rw [if_pos rfl,rv,sH,h3 k (Nat.le_refl k)];rfl
        · rw [if_neg g];exact h2 j (by omega) hjn
      · rw [dx hll,if_pos rfl,dx (by rw [hrl1];exact hk'),if_neg (by omega)];exact h3 j (by omega))
  exact ⟨l,e,m1,h1,fun j hj=>h2 j (by omega) hj⟩
/-- one row is cleared -/
theorem yq (hp:iq p) {l:List (List Nat)} {l5:List Int} {i c:Nat} (m:qI p h n l) (hr:l5.length < h) (hi:i < h) (hne:i≠l5.length) (hc:c < n) :
    ∃ l',ea (fun k5 (st:(List (List Nat)))=>gL p l5 i (l.getD i []) ((l.getD i []).getD c 0) (l.getD l5.length []) k5 st) n 0 l=some l'∧qI p h n l'∧(∀ k,k < h→k≠i→l'.getD k []=l.getD k [])∧∀ j,j < n→G p l' i j=G p l i j - G p l i c*G p l l5.length j:=by
  have hil:=m.row _ hi
  obtain ⟨l',e,m1,h1,h2,_⟩:=jz (body:=fun k5 (st:(List (List Nat)))=>gL p l5 i (l.getD i []) ((l.getD i []).getD c 0) (l.getD l5.length []) k5 st) (rem:=n) (k:=0) (s:=l)
    (fun k l'=>qI p h n l'∧(∀ k,k < h→k≠i→l'.getD k []=l.getD k [])∧(∀ j,j < k→j < n→G p l' i j=G p l i j - G p l i c*G p l l5.length j)∧(∀ j,k≤j→(l'.getD i []).getD j 0=(l.getD i []).getD j 0))
    ⟨m,fun _ _ _=>rfl,fun j hj=>by omega,fun _ _=>rfl⟩ (fun k l' _ hk ⟨m1,h1,h2,h3⟩=>by
      have hk':k < n:=by omega
      have hil1:=m1.row _ hi
      have hll:i < l'.length:=by rw [m1.len];exact hi
      unfold gL
      rw [rd m hr hk',bS,m1.some hr,bS,h1 _ hr (fun e=>hne e.symm),rd m hr hk',bS,rd m hi hk',bS,m1.some hi,bS,rd m1 hi hk',bS,nE hp (m.lt _ hi _ hc) (m.lt _ hr _ hk'),bS,wu hp (m1.lt _ hi _ hk') (Nat.mod_lt _ hp.pos),bS,bS,bS]
      refine ⟨_,rfl,m1.setRow hi (by rw [List.length_set];exact hil1) (fun j hj=>?_),fun q hq hqi=>?_,fun j hj hjn=>?_,fun j hj=>?_⟩
      · rw [dx (by rw [hil1];exact hk')];split
        · exact Nat.mod_lt _ hp.pos
        · exact m1.lt _ hi _ hj
      · rw [dx hll,if_neg (fun e=>hqi e.symm)];exact h1 q hq hqi
      · show o p (((l'.set _ _).getD i []).getD j 0)=_
        rw [dx hll,if_pos rfl,dx (by rw [hil1];exact hk')]
        by_cases g:k=j
        · subst g
          rw [if_pos rfl,wm (Nat.mod_lt _ hp.pos),rv,sH,h3 k (Nat.le_refl k)];rfl
        · rw [if_neg g];exact h2 j (by omega) hjn
      · rw [dx hll,if_pos rfl,dx (by rw [hil1];exact hk'),if_neg (by omega)];exact h3 j (by omega))
  exact ⟨l',e,m1,h1,fun j hj=>h2 j (by omega) hj⟩
/-- all other rows are cleared -/
theorem zP (hp:iq p) {l:List (List Nat)} {l5:List Int} {c:Nat} (m:qI p h n l) (hr:l5.length < h) (hc:c < n) (hn:n≤1000) :
    ∃ l',ea (fun k4 (st:(List (List Nat)))=>gK p l5 c k4 st) h 0 l=some l'∧qI p h n l'∧(∀ j,j < n→G p l' l5.length j=G p l l5.length j)∧∀ i,i < h→i≠l5.length→∀ j,j < n→G p l' i j=G p l i j - G p l i c*G p l l5.length j:=by
  obtain ⟨l',e,m1,h1,h2,h3⟩:=jz (body:=fun k4 (st:(List (List Nat)))=>gK p l5 c k4 st) (rem:=h) (k:=0) (s:=l)
    (fun k l'=>qI p h n l'∧(l'.getD l5.length []=l.getD l5.length [])∧(∀ i,i < k→i < h→i≠l5.length→∀ j,j < n→G p l' i j=G p l i j - G p l i c*G p l l5.length j)∧(∀ i,k≤i→l'.getD i []=l.getD i []))
    ⟨m,rfl,fun i hi=>by omega,fun _ _=>rfl⟩ (fun k l' _ hk ⟨m1,h1,h2,h3⟩=>by
      have hk':k < h:=by omega
      unfold gK
      rw [m1.some hk',bS]
      by_cases g:k=l5.length
      · rw [eT (by omega),cT,bS,cT]
        refine ⟨_,rfl,m1,h1,fun i hi hih hne j hj=>h2 i (by omega) hih hne j hj,fun i hi=>h3 i (by omega)⟩
      · rw [eF (by omega),cF,rd m1 hk' hc,bS,bS]
        by_cases g2:(l'.getD k []).getD c 0=0
        · rw [eT (by omega),cT]
          refine ⟨_,rfl,m1,h1,fun i hi hih hne j hj=>?_,fun i hi=>h3 i (by omega)⟩
          by_cases e:i=k
          · subst e
            have z:G p l i c=0:=by
              show o p ((l.getD i []).getD c 0)=0
              rw [← h3 i (Nat.le_refl i),g2,nG]
            have y:G p l' i j=G p l i j:=by
              show o p ((l'.getD i []).getD j 0)=o p ((l.getD i []).getD j 0)
              rw [h3 i (Nat.le_refl i)]
            rw [z,y];grind
          · exact h2 i (by omega) hih hne j hj
        · rw [eF (by omega),cF,bS,m1.some hr,bS,m1.row _ hr,lH (by omega),bS]
          obtain ⟨l2,e2,m2,k1,k2⟩:=yq hp (l5:=l5) (i:=k) (c:=c) m1 hr hk' g hc
          rw [Nat.sub_zero,e2,bS]
          refine ⟨_,rfl,m2,?_,fun i hi hih hne j hj=>?_,fun i hi=>?_⟩
          · rw [k1 _ hr (fun e=>g e.symm)];exact h1
          · by_cases e:i=k
            · subst e
              rw [k2 j hj]
              have y:∀ q,G p l' i q=G p l i q:=fun q=>by
                show o p ((l'.getD i []).getD q 0)=o p ((l.getD i []).getD q 0)
                rw [h3 i (Nat.le_refl i)]
              have y2:G p l' l5.length j=G p l l5.length j:=by
                show o p ((l'.getD l5.length []).getD j 0)=o p ((l.getD l5.length []).getD j 0)
                rw [h1]
              rw [y,y,y2]
            · have:=h2 i (by omega) hih hne j hj
              rw [← this]
              show o p ((l2.getD i []).getD j 0)=o p ((l'.getD i []).getD j 0)
              rw [k1 i hih e]
          · by_cases hih:i < h
            · rw [k1 i hih (by omega)];exact h3 i (by omega)
            · have a1:l2.length≤i:=by rw [m2.len];omega
              have a2:l.length≤i:=by rw [m.len];omega
              rw [List.getD_eq_getElem?_getD,List.getElem?_eq_none a1,List.getD_eq_getElem?_getD,List.getElem?_eq_none a2])
  exact ⟨l',e,m1,fun j hj=>by show o p ((l'.getD l5.length []).getD j 0)=o p ((l.getD l5.length []).getD j 0);rw [h1],fun i hi hne j hj=>h2 i (by omega) hi hne j hj⟩
end
/-- the search for a pivot -/
theorem find_ok {p h n:Nat} {l:List (List Nat)} {r c:Nat} (m:qI p h n l) (hr:r≤h) (hc:c < n) (hh:h≤1000) :
    ∃ x,qE (fun (st:Int × Int)=>eG l c st.1 st.2) big ((-1),((r:Nat):Int))=some x∧((x = -1∧∀ i,r≤i→i < h→(l.getD i []).getD c 0=0) ∨ ∃ a:Nat,x=a∧r≤a∧a < h∧(l.getD a []).getD c 0≠0):=by
  obtain ⟨x,e,hx⟩:=sa (step:=fun (st:Int × Int)=>eG l c st.1 st.2)
    (fun st=>∃ k:Nat,st.2=k∧k≤h∧((st.1 = -1∧r≤k∧∀ i,r≤i→i < k→(l.getD i []).getD c 0=0) ∨ ∃ a:Nat,st.1=a∧r≤a∧a < h∧(l.getD a []).getD c 0≠0))
    (fun x=>(x = -1∧∀ i,r≤i→i < h→(l.getD i []).getD c 0=0) ∨ ∃ a:Nat,x=a∧r≤a∧a < h∧(l.getD a []).getD c 0≠0)
    (fun st=>h - st.2.toNat) (fun st ⟨k,h1,h2,h3⟩=>by
      obtain ⟨x6,x7⟩:=st
      simp only at h1 h3
      subst h1
      unfold eG
      rw [m.len]
      by_cases c1:k < h
      · rw [dT (by omega),cT]
        rcases h3 with ⟨rfl,g1,g2⟩ | ⟨a,rfl,g⟩
        · rw [dT (by omega),bS,cT,qj [] (by omega) (by rw [m.len];omega),bS]
          simp only [Int.toNat_natCast]
          rw [rd m c1 hc,bS]
          by_cases z:(l.getD k []).getD c 0=0
          · rw [qF (by omega),cF,lk (by omega) (by omega),bS]
            refine ⟨_,rfl,⟨k+1,rfl,by omega,.inl ⟨rfl,by omega,fun i hi1 hi2=>?_⟩⟩,by show h - ((k:Int)+1).toNat < h - ((k:Int)).toNat;omega⟩
            by_cases e:i=k
            · subst e;exact z
            · exact g2 i hi1 (by omega)
          · rw [qT (by omega),cT,lk (by omega) (by omega),bS]
            exact ⟨_,rfl,⟨k+1,rfl,by omega,.inr ⟨k,rfl,g1,c1,z⟩⟩,by show h - ((k:Int)+1).toNat < h - ((k:Int)).toNat;omega⟩
        · rw [dF (by omega),bS,cF]
          exact ⟨_,rfl,.inr ⟨a,rfl,g⟩⟩
      · rw [dF (by omega),cF,bS,cF]
        refine ⟨_,rfl,?_⟩
        rcases h3 with ⟨rfl,g1,g2⟩ | g
        · exact .inl ⟨rfl,fun i hi1 hi2=>g2 i hi1 (by omega)⟩
        · exact .inr g) (s:=((-1),((r:Nat):Int))) ⟨r,rfl,hr,.inl ⟨rfl,Nat.le_refl r,fun i a b=>by omega⟩⟩ (by show h - _ < _;omega)
  exact ⟨x,e,hx⟩
section
variable {p:Nat} [NeZero p] {h n:Nat}
def pv (l5:List Int) (r:Nat):Nat:=(l5.getD r 0).toNat
/-- one column -/
theorem yr (hp:iq p) {M0:Nat→Nat→Fin p} {l4:List (List Nat)} {l5:List Int} {c x3 W:Nat} (hW:n < W) (hW9:W≤1000) (m:qI p h W l4) (hc:c < n) (hn:n≤900) (hh:h≤900) (h5:l5.length≤h) (hx:x3 < p)
    (h0:∀ r,r < l5.length→l5.getD r 0=((pv l5 r:Nat):Int)) (red:qC h n M0 (G p l4) l5.length (pv l5) c) :
    ∃ l l' x,eE p c l4 l5 x3=some (l,l',x)∧qI p h W l∧l'.length≤h∧x < p∧(∀ r,r < l'.length→l'.getD r 0=((pv l' r:Nat):Int))∧qC h n M0 (G p l) l'.length (pv l') (c+1):=by
  unfold eE
  obtain ⟨x9,e9,hx9⟩:=find_ok (c:=c) m h5 (by omega) (by omega)
  rw [e9,bS]
  rcases hx9 with ⟨rfl,hz⟩ | ⟨a,rfl,a1,a2,a3⟩
  · rw [dT (by omega),cT]
    exact ⟨_,_,_,rfl,m,h5,hx,h0,red.skip hc fun i hi1 hi2=>by show o p _=0;rw [hz i hi1 hi2,nG]⟩
  · rw [dF (by omega),cF]
    have hr:l5.length < h:=by omega
    -- the rows as they stand behind the swap
    obtain ⟨l8,x15,e8,m8,hx15,r8⟩:∃ l8 x15,(bif ((a:Nat):Int) != ((l5.length:Nat):Int) then
        l4[l5.length]? >>= fun x16 =>
        eV l4 ((a:Nat):Int) >>= fun x17 =>
        some ((l4.set ((a:Nat):Int).toNat x16).set l5.length x17) >>= fun l9 =>
        j3 p x3 >>= fun r6 =>
        some (l9,r6)
      else
        some (l4,x3))=some (l8,x15)∧qI p h W l8∧x15 < p∧∀ i,i < h→l8.getD i []=if i=l5.length then l4.getD a [] else if i=a then l4.getD l5.length [] else l4.getD i []:=by
      by_cases e:a=l5.length
      · rw [qF (by omega),cF]
        refine ⟨_,_,rfl,m,hx,fun i hi=>?_⟩
        subst e
        by_cases g:i=l5.length
        · rw [if_pos g,g]
        · rw [if_neg g,if_neg g]
      · rw [qT (by omega),cT,m.some hr,bS,qj [] (by omega) (by rw [m.len];omega),bS,bS,y9 hp hx,bS]
        simp only [Int.toNat_natCast]
        have m1:=m.setRow (i:=a) a2 (m.row _ hr) (m.lt _ hr)
        have m2:=m1.setRow (i:=l5.length) hr (m.row _ a2) (m.lt _ a2)
        refine ⟨_,_,rfl,m2,Nat.mod_lt _ hp.pos,fun i hi=>?_⟩
        rw [dx (by rw [List.length_set,m.len];exact hr),dx (by rw [m.len];exact a2)]
        by_cases g:i=l5.length
        · rw [if_pos g.symm,if_pos g]
        · rw [if_neg (fun e=>g e.symm),if_neg g]
          by_cases g2:i=a
          · rw [if_pos g2.symm,if_pos g2]
          · rw [if_neg (fun e=>g2 e.symm),if_neg g2]
    rw [e8,bS]
    simp only
    have hcn:c < W:=by omega
    have hgc:(l8.getD l5.length []).getD c 0=(l4.getD a []).getD c 0:=by rw [r8 _ hr,if_pos rfl]
    have hlt:(l4.getD a []).getD c 0 < p:=m.lt _ a2 _ hcn
    rw [m8.some hr,bS,rd m8 hr hcn,bS,hgc,nE hp hx15 hlt,bS,yX hp hlt a3,bS,m8.row _ hr,lH (by omega),bS,Nat.sub_zero]
    obtain ⟨l11,e11,m11,s1,s2⟩:=zK (e:=0) hp (l5:=l5) m8 hr (zx (a:=(l4.getD a []).getD c 0) (b:=p - 2) hp)
    rw [e11,bS,m11.len,Nat.sub_zero]
    obtain ⟨l15,e15,m15,t1,t2⟩:=zP hp (l5:=l5) m11 hr hcn (by omega)
    rw [e15,bS,ei (by simp;omega) (by simp;omega),bS]
    have hpv:∀ r,r < l5.length→pv (l5++[((c:Nat):Int)]) r=pv l5 r:=fun r hr=>by
      unfold pv;rw [List.getD_eq_getElem?_getD,List.getElem?_append_left hr,← List.getD_eq_getElem?_getD]
    have hpc:pv (l5++[((c:Nat):Int)]) l5.length=c:=by unfold pv;simp
    refine ⟨_,_,_,rfl,m15,by simp;omega,Nat.mod_lt _ hp.pos,fun r hr2=>?_,?_⟩
    · simp only [List.length_append,List.length_cons,List.length_nil] at hr2
      by_cases g:r=l5.length
      · subst g;rw [hpc];simp
      · rw [hpv r (by omega),← h0 r (by omega)]
        rw [List.getD_eq_getElem?_getD,List.getElem?_append_left (by omega),← List.getD_eq_getElem?_getD]
    · have red2:qC h n M0 (G p l4) l5.length (pv (l5++[((c:Nat):Int)])) c :=
        ⟨red.sol,red.len,fun s hs=>by rw [hpv s hs];exact red.lt s hs,red.cn,fun s hs i hi=>by rw [hpv s hs];exact red.unit s hs i hi,red.low⟩
      have G8:∀ i,i < h→∀ j,G p l8 i j=if i=l5.length then G p l4 a j else if i=a then G p l4 l5.length j else G p l4 i j:=fun i hi j=>by
        show o p ((l8.getD i []).getD j 0)=_
        rw [r8 i hi]
        split
        · rfl
        · split <;> rfl
      have G11:∀ i,i < h→i≠l5.length→∀ j,G p l11 i j=G p l8 i j:=fun i hi hne j=>by
        show o p ((l11.getD i []).getD j 0)=o p ((l8.getD i []).getD j 0)
        rw [s1 i hi hne]
      have red3:=red2.pivot hc hp.one a1 a2 (u:=o p (Cc p ((l4.getD a []).getD c 0) (p - 2))) (M':=G p l15)
        (hp.oinv (by rw [Nat.mod_eq_of_lt hlt];exact a3)) hpc
        (fun j hj=>by rw [t1 j (by omega),s2 j (by omega),G8 _ hr,if_pos rfl])
        (fun i hi hne j hj=>by
          rw [t2 i hi hne j (by omega),t1 j (by omega),G11 i hi hne,G11 i hi hne,G8 i hi,G8 i hi,if_neg hne,if_neg hne]
          )
      rw [List.length_append]
      exact red3
/-- all columns -/
theorem zG (hp:iq p) {l:List (List Nat)} {W:Nat} (hW:n < W) (hW9:W≤1000) (m:qI p h W l) (hn:n≤900) (hh:h≤900) :
    ∃ w,kj p l ((n:Nat):Int)=some w∧qI p h W w.zm∧w.zpivot.length≤h∧(∀ r,r < w.zpivot.length→w.zpivot.getD r 0=((pv w.zpivot r:Nat):Int))∧qC h n (G p l) (G p w.zm) w.zpivot.length (pv w.zpivot) n:=by
  unfold kj
  rw [xB (by rw [m.len];omega),bS,m.len,lH (by omega),bS,Nat.sub_zero]
  obtain ⟨l2,e2,h2⟩:=jz (body:=fun k1 (st:(List (List Nat)))=>j7 k1 st) (rem:=h) (k:=0) (s:=l) (fun _ l'=>l'=l) rfl (fun k l' _ hk he=>by
    subst he
    unfold j7
    rw [m.some (by omega),bS,uY (by rw [m.row _ (by omega)];omega),bS,bS]
    exact ⟨_,rfl,td (by rw [m.len];omega)⟩)
  subst h2
  rw [e2,bS]
  have hmx:max 0 ((n:Nat):Int).toNat=n:=by simp
  rw [hmx,lH (by omega),bS,Nat.sub_zero]
  obtain ⟨st,e,h1,h2,h3,h4,h5⟩:=jz (body:=fun k2 (st:(List (List Nat)) × (List Int) × Nat)=>eE p k2 st.1 st.2.1 st.2.2) (rem:=n) (k:=0) (s:=(l2,([]:List Int),1))
    (fun c st=>qI p h W st.1∧st.2.1.length≤h∧st.2.2 < p∧(∀ r,r < st.2.1.length→st.2.1.getD r 0=((pv st.2.1 r:Nat):Int))∧qC h n (G p l2) (G p st.1) st.2.1.length (pv st.2.1) c)
    ⟨m,by simp,by have:=hp.lt;show 1 < p;omega,fun r hr=>by simp at hr,qC.start⟩ (fun c st _ hc ⟨h1,h2,h3,h4,h5⟩=>by
      obtain ⟨l,l',x,e,k1,k2,k3,k4,k5⟩:=yr hp hW hW9 h1 (by omega) hn hh h2 h3 h4 h5
      exact ⟨_,e,k1,k2,k3,k4,k5⟩)
  rw [e,bS]
  rw [Nat.zero_add] at h5
  exact ⟨_,rfl,h1,h2,h4,h5⟩
end
end Pu

/- Plain laws of solving linear equations. -/
set_option linter.unusedVariables false
namespace Pu
open Gw Gl Sp Lean.Grind
theorem gy {α:Type} {a b:List α} {i:Nat} {d:α} (h:i < a.length):(a++b).getD i d=a.getD i d:=by
  rw [List.getD_eq_getElem?_getD,List.getElem?_append_left h,← List.getD_eq_getElem?_getD]
theorem j6 {α:Type} {a:List α} {x d:α} {i:Nat} (h:i=a.length):(a++[x]).getD i d=x:=by
  subst h;simp [List.getD_eq_getElem?_getD]
theorem Ce {p h n:Nat} {m:List (List Nat)} (hm:qI p h n m) (h0:0 < h):mb m=some true:=by
  unfold mb bF bO
  rw [hm.len,Nat.sub_zero]
  obtain ⟨o,e,ho⟩:=km (body:=fun k1 (st:Unit)=>bG m m k1) (fun _ _=>True) (fun _=>False) (rem:=h) (k:=0) (s:=()) trivial (fun k _ _ hk _=>by
    unfold bG mH
    rw [hm.some (show k < h by omega),bS,hm.some h0,bS,bS,hm.row _ (by omega),hm.row _ h0,qF rfl,cF]
    exact ⟨_,rfl,trivial⟩)
  rw [e]
  cases o with
  | fin r=>exact ho.elim
  | go s=>rw [bS,oG,bS,dF (by omega),bS,nF]
theorem As {p h n:Nat} {m:List (List Nat)} (hm:qI p h n m) (h0:0 < h):ma m=some ((n:Nat):Int):=by
  unfold ma
  rw [hm.len,eF (by omega),cF,hm.some h0,bS,hm.row _ h0]
section
variable {p:Nat} [NeZero p] {h n:Nat}
end
end Pu

/- Plain laws of polynomials. -/
set_option linter.unusedVariables false
namespace Pu
open Gw Gl Sp Lean.Grind
def Lt (p:Nat) (l:List Nat):Prop:=∀ i,i < l.length→l.getD i 0 < p
theorem Lt.get {p:Nat} {l:List Nat} (hp:0 < p) (h:Lt p l) (i:Nat):l.getD i 0 < p:=by
  by_cases g:i < l.length
  · exact h i g
  · rw [List.getD_eq_getElem?_getD,List.getElem?_eq_none (by omega)];exact hp
section
variable {p:Nat} [NeZero p]
def P (p:Nat) [NeZero p] (f:List Nat):List (Fin p):=f.map (o p)
theorem CY (f:List Nat) (i:Nat):cf (P p f) i=o p (f.getD i 0):=by
  unfold cf P
  rw [List.getD_eq_getElem?_getD,List.getElem?_map,List.getD_eq_getElem?_getD]
  cases f[i]? with
  | none=>exact nG.symm
  | some x=>rfl
end
section
variable {p:Nat} [NeZero p]
end
end Pu

/- Plain laws of the decoder of Reed and Solomon. -/
set_option linter.unusedVariables false
namespace Pu
open Gw Gl Sp Lean.Grind
instance:Inhabited br:=⟨⟨0,0⟩⟩
section
variable {p:Nat} [NeZero p]
end
end Pu

/- Plain laws of the network: deviations, messages, views. -/
set_option linter.unusedVariables false
namespace Pu
open Gw Gl Sp
instance:Inhabited aF:=⟨⟨0,0,0,0,0,0,0,0⟩⟩
instance:Inhabited ao:=⟨⟨0,0,[]⟩⟩
/-- what a valid scenario says -/
structure Sc (w:ac) (n t:Nat):Prop where
  sup:iq w.S.P
  N:w.S.N=n
  T:w.S.T=t
  n4:4≤n
  n13:n≤13
  t1:1≤t
  t3:3*t < n
  cl:w.ae.length≤t
  cr:∀ x ∈ w.ae,1≤x∧x≤n
  dl:w.aa.length≤40
  dv:∀ x ∈ w.aa,1≤x.From∧x.From≤n∧0≤x.At∧0≤x.a9∧0≤x.Of∧x.Of≤n∧(x.Kind=3→1≤x.Of)∧x.K < 18446744073709551616
/-- messages between n parties: at most L words each, below p -/
structure Sq (p n L:Nat) (m:List (List (List Nat))):Prop where
  len:m.length=n
  row:∀ i,i < n→(m.getD i []).length=n
  w:∀ i,i < n→∀ j,j < n→Lt p ((m.getD i []).getD j [])∧((m.getD i []).getD j []).length≤L
theorem Sq.s1 {p n L i:Nat} {m:List (List (List Nat))} (s:Sq p n L m) (hi:i < n):m[i]?=some (m.getD i []):=ix [] (by rw [s.len];exact hi)
theorem Sq.s2 {p n L i j:Nat} {m:List (List (List Nat))} (s:Sq p n L m) (hi:i < n) (hj:j < n):(m.getD i [])[j]?=some ((m.getD i []).getD j []):=ix [] (by rw [s.row i hi];exact hj)
end Pu

/- Plain laws of scenarios: what the reference calls valid the program calls valid, and the networks stand. -/
set_option linter.unusedVariables false
namespace Pu
open Gw Gl Sp
structure Va (w:ac) (n t:Nat):Prop extends Sc w n t where
  ord:∀ i,0 < i→i < w.ae.length→w.ae.getD (i - 1) 0 < w.ae.getD i 0
  tl:w.aE.length=n
  tb:∀ i,i < n→∀ j,j < (w.aE.getD i []).length→(w.aE.getD i []).getD j 0 < w.S.P
  ts:∀ i,i < n→(w.aE.getD i []).length≤1000
  full:∀ x ∈ w.aa,0≤x.Round∧0≤x.To∧x.To≤n∧1≤x.Kind∧x.Kind≤4
theorem yA {p:Nat} {l:List Int} {j:Nat} {x:Int} (hl:l[j]?=some x) (hx:5≤x∧x≤61):dZ p l j=some (if p=2 ^ x.toNat - 1 then .fin x else .go ()):=by
  unfold dZ
  obtain ⟨q,rfl⟩:∃ q:Nat,x=q:=⟨x.toNat,by omega⟩
  have hq:q≤61:=by omega
  have hu:tf ((q:Nat):Int)=q:=by unfold tf;omega
  have h2:2 ^ q≤2 ^ 61:=Nat.pow_le_pow_right (by decide) hq
  have h3:1≤2 ^ q:=Nat.one_le_two_pow
  rw [hl,bS,hu,bS,tJ (by omega),bS,Nat.one_mul,Nat.mod_eq_of_lt (by omega),sf h3 (by omega),bS,Int.toNat_natCast]
  by_cases g:p=2 ^ q - 1
  · rw [zz g,cT,if_pos g]
  · rw [G7 g,cF,if_neg g]
theorem D5 {p:Nat} {x:Int} (h:x ∈ ([5,7,13,17,19,31,61]:List Int)) (e:p=2 ^ x.toNat - 1):iq p:=by
  simp only [List.mem_cons,List.not_mem_nil,or_false] at h
  unfold iq
  rcases h with rfl | rfl | rfl | rfl | rfl | rfl | rfl <;> simp at e <;> omega
theorem DX {p:Nat}:∃ b,eu p=some b∧(b=true→iq p):=by
  unfold eu fZ
  have he:jp=some [5,7,13,17,19,31,61]:=rfl
  rw [he,bS]
  obtain ⟨o,e,ho⟩:=km (body:=fun k1 (st:Unit)=>dZ p [5,7,13,17,19,31,61] k1) (fun _ _=>True) (fun r=>iq p) (rem:=([5,7,13,17,19,31,61]:List Int).length - 0) (k:=0) (s:=()) trivial (fun j _ _ hj _=>by
    have hj':j < 7:=by simpa using hj
    obtain ⟨x,hx,hm⟩:∃ x,([5,7,13,17,19,31,61]:List Int)[j]?=some x∧x ∈ ([5,7,13,17,19,31,61]:List Int):=⟨_,List.getElem?_eq_getElem (by simpa using hj'),List.getElem_mem _⟩
    have hb:5≤x∧x≤61:=by
      simp only [List.mem_cons,List.not_mem_nil,or_false] at hm
      rcases hm with rfl | rfl | rfl | rfl | rfl | rfl | rfl <;> decide
    rw [yA hx hb]
    refine ⟨_,rfl,?_⟩
    split
    · next g=>exact D5 hm g
    · trivial)
  rw [e]
  simp only [bS]
  cases o with
  | fin r=>rw [oF];simp only [bS];exact ⟨_,rfl,fun _=>ho⟩
  | go s=>rw [oG];simp only [bS];exact ⟨_,rfl,fun h=>by simp at h⟩
structure Gf (s:aL) (n t:Nat):Prop where
  sup:iq s.P
  N:s.N=n
  T:s.T=t
  n4:4≤n
  n13:n≤13
  t1:1≤t
  t3:3*t < n
theorem vD {s:aL}:∃ b,eO s=some b∧(b=true→∃ n t,Gf s n t):=by
  unfold eO
  obtain ⟨b,e,hb⟩:=DX (p:=s.P)
  rw [e,bS]
  cases b with
  | false=>rw [cF];exact ⟨_,rfl,fun h=>by cases h⟩
  | true =>
    rw [cT]
    have hp:=hb rfl
    by_cases h1:s.N ≥ 4
    · rw [dT h1,cT]
      by_cases h2:s.N≤13
      · rw [dT h2,cT,bS]
        by_cases h3:((tf s.N:Nat):Int) < ((s.P:Nat):Int)
        · rw [dT h3,cT]
          by_cases h4:s.T ≥ 1
          · rw [dT h4,cT]
            by_cases h5:s.T < s.N
            · rw [dT h5,cT,xT (by omega) (by omega),bS]
              refine ⟨_,rfl,fun h=>?_⟩
              have h6:=of_decide_eq_true h
              exact ⟨s.N.toNat,s.T.toNat,hp,by omega,by omega,by omega,by omega,by omega,by omega⟩
            · rw [dF h5,cF];exact ⟨_,rfl,fun h=>by cases h⟩
          · rw [dF h4,cF];exact ⟨_,rfl,fun h=>by cases h⟩
        · rw [dF h3,cF];exact ⟨_,rfl,fun h=>by cases h⟩
      · rw [dF h2,cF];exact ⟨_,rfl,fun h=>by cases h⟩
    · rw [dF h1,cF];exact ⟨_,rfl,fun h=>by cases h⟩
theorem Cf {s:aL} {l:List Int}:∃ b,dm s l=some b∧(b=true→∃ n t,Gf s n t∧l.length≤t∧(∀ x ∈ l,1≤x∧x≤n)∧∀ i,0 < i→i < l.length→l.getD (i - 1) 0 < l.getD i 0):=by
  unfold dm
  obtain ⟨b,e,hb⟩:=vD (s:=s)
  rw [e,bS]
  cases b with
  | false=>rw [nF,cT,bS,cT];exact ⟨_,rfl,fun h=>by cases h⟩
  | true =>
    obtain ⟨n,t,par⟩:=hb rfl
    have hT:=par.T;have hN:=par.N;have h13:=par.n13;have h3:=par.t3
    rw [nT,cF,bS]
    by_cases g:l.length≤t
    · rw [dF (by omega),cF,Nat.sub_zero]
      obtain ⟨o,e,ho⟩:=km (body:=fun k1 (st:Unit)=>dX s l k1) (fun k _=>∀ i,i < k→(1≤l.getD i 0∧l.getD i 0≤n)∧(0 < i→l.getD (i - 1) 0 < l.getD i 0)) (fun r=>r=false) (rem:=l.length) (k:=0) (s:=()) (fun i hi=>by omega) (fun k _ _ hk h=>by
        have hkl:k < l.length:=by omega
        unfold dX
        rw [ix 0 hkl,bS,hN]
        by_cases c1:l.getD k 0 < 1
        · rw [dT c1,cT];exact ⟨_,rfl,rfl⟩
        · rw [dF c1,cF]
          by_cases c2:l.getD k 0 > n
          · rw [dT c2,cT];exact ⟨_,rfl,rfl⟩
          · rw [dF c2,cF]
            by_cases c3:((k:Nat):Int) > 0
            · have e1:(((k:Nat):Int) - 1).toNat=k - 1:=by omega
              rw [dT c3,cT,tL (by omega) (by omega),bS,qj 0 (by omega) (by omega),bS,e1]
              by_cases c4:l.getD k 0≤l.getD (k - 1) 0
              · rw [dT c4,cT];exact ⟨_,rfl,rfl⟩
              · rw [dF c4,cF]
                refine ⟨_,rfl,fun i hi=>?_⟩
                by_cases g:i=k
                · subst g;exact ⟨⟨by omega,by omega⟩,fun _=>by omega⟩
                · exact h i (by omega)
            · rw [dF c3,cF]
              refine ⟨_,rfl,fun i hi=>?_⟩
              by_cases g:i=k
              · subst g;exact ⟨⟨by omega,by omega⟩,fun _=>by omega⟩
              · exact h i (by omega))
      rw [e,bS]
      cases o with
      | fin r=>rw [oF];exact ⟨_,rfl,fun h=>by rw [ho] at h;cases h⟩
      | go _ =>
        rw [oG]
        rw [Nat.zero_add] at ho
        refine ⟨_,rfl,fun _=>⟨n,t,par,g,fun x hx=>?_,fun i h1 h2=>(ho i h2).2 h1⟩⟩
        obtain ⟨i,hi,rfl⟩:=List.getElem_of_mem hx
        have:=(ho i hi).1
        rw [List.getD_eq_getElem?_getD,List.getElem?_eq_getElem hi] at this
        exact this
    · rw [dT (by omega),cT];exact ⟨_,rfl,fun h=>by cases h⟩
/-- a valid deviation -/
def Dv (s:aL) (x:aF):Prop:=0≤x.Round∧0≤x.At∧0≤x.a9∧1≤x.From∧x.From≤s.N∧0≤x.To∧x.To≤s.N∧1≤x.Kind∧x.Kind≤4∧0≤x.Of∧x.Of≤s.N∧(x.Kind=3→1≤x.Of)
theorem bC {c:Prop} [Decidable c] {X:Option Bool} {Q:Prop} (h:c→∃ b,X=some b∧(b=true→Q)):∃ b,(bif decide c then X else some false)=some b∧(b=true→Q):=by
  by_cases g:c
  · rw [dT g,cT];exact h g
  · rw [dF g,cF];exact ⟨_,rfl,fun h=>by cases h⟩
theorem DW {s:aL} {x:aF}:∃ b,eA s x=some b∧(b=true→Dv s x):=by
  unfold eA
  refine bC fun h1=>bC fun h2=>bC fun h3=>bC fun h4=>bC fun h5=>bC fun h6=>bC fun h7=>bC fun h8=>bC fun h9=>bC fun h10=>bC fun h11=>?_
  by_cases k:x.Kind=3
  · rw [qF k,cF]
    exact ⟨_,rfl,fun h=>⟨h1,h2,h3,h4,h5,h6,h7,h8,h9,h10,h11,fun _=>of_decide_eq_true h⟩⟩
  · rw [qT k,cT]
    exact ⟨_,rfl,fun h=>⟨h1,h2,h3,h4,h5,h6,h7,h8,h9,h10,h11,fun e=>absurd e k⟩⟩
theorem zH {p:Nat} {l:List Nat}:∃ b,fM p l=some b∧(b=true→Lt p l):=by
  unfold fM
  rw [Nat.sub_zero]
  obtain ⟨o,e,ho⟩:=km (body:=fun k1 (st:Unit)=>f3 p l k1) (fun k _=>∀ i,i < k→l.getD i 0 < p) (fun r=>r=false) (rem:=l.length) (k:=0) (s:=()) (fun i hi=>by omega) (fun k _ _ hk h=>by
    unfold f3
    rw [ix 0 (by omega),bS]
    by_cases g:l.getD k 0 < p
    · rw [dF (by omega),cF]
      refine ⟨_,rfl,fun i hi=>?_⟩
      by_cases e:i=k
      · subst e;exact g
      · exact h i (by omega)
    · rw [dT (by omega),cT];exact ⟨_,rfl,rfl⟩)
  rw [e,bS]
  cases o with
  | fin r=>rw [oF];exact ⟨_,rfl,fun h=>by rw [ho] at h;cases h⟩
  | go _=>rw [oG];exact ⟨_,rfl,fun _ i hi=>ho i (by omega)⟩
theorem Cg {w:ac}:∃ b,cJ w=some b∧(b=true→∃ n t,Gf w.S n t∧w.ae.length≤t∧(∀ x ∈ w.ae,1≤x∧x≤n)∧(∀ i,0 < i→i < w.ae.length→w.ae.getD (i - 1) 0 < w.ae.getD i 0)∧w.aE.length=n∧(∀ i,i < w.aa.length→Dv w.S (w.aa.getD i default))∧∀ i,i < w.aE.length→Lt w.S.P (w.aE.getD i [])):=by
  unfold cJ
  obtain ⟨b,e,hb⟩:=vD (s:=w.S)
  rw [e,bS]
  cases b with
  | false=>rw [nF,cT,bS,cT];exact ⟨_,rfl,fun h=>by cases h⟩
  | true =>
    rw [nT,cF]
    obtain ⟨b,e,hb⟩:=Cf (s:=w.S) (l:=w.ae)
    rw [e,bS]
    cases b with
    | false=>rw [nF,cT,bS,cT];exact ⟨_,rfl,fun h=>by cases h⟩
    | true =>
      obtain ⟨n,t,par,c1,c2,c3⟩:=hb rfl
      rw [nT,cF,bS]
      by_cases g:w.aE.length=n
      · rw [qF (by rw [g,par.N]),cF,Nat.sub_zero,Nat.sub_zero]
        obtain ⟨o,e,ho⟩:=km (body:=fun k1 (st:Unit)=>ef w k1) (fun k _=>∀ i,i < k→Dv w.S (w.aa.getD i default)) (fun r=>r=false) (rem:=w.aa.length) (k:=0) (s:=()) (fun i hi=>by omega) (fun k _ _ hk h=>by
          unfold ef
          rw [ix default (by omega),bS]
          obtain ⟨b,e,hb⟩:=DW (s:=w.S) (x:=w.aa.getD k default)
          rw [e,bS]
          cases b with
          | false=>rw [nF,cT];exact ⟨_,rfl,rfl⟩
          | true =>
            rw [nT,cF]
            refine ⟨_,rfl,fun i hi=>?_⟩
            by_cases e:i=k
            · subst e;exact hb rfl
            · exact h i (by omega))
        rw [e,bS]
        cases o with
        | fin r=>rw [oF];exact ⟨_,rfl,fun h=>by rw [ho] at h;cases h⟩
        | go _ =>
          rw [oG]
          obtain ⟨o,e,hq⟩:=km (body:=fun k1 (st:Unit)=>eg w k1) (fun k _=>∀ i,i < k→Lt w.S.P (w.aE.getD i [])) (fun r=>r=false) (rem:=w.aE.length) (k:=0) (s:=()) (fun i hi=>by omega) (fun k _ _ hk h=>by
            unfold eg
            rw [ix [] (by omega),bS]
            obtain ⟨b,e,hb⟩:=zH (p:=w.S.P) (l:=w.aE.getD k [])
            rw [e,bS]
            cases b with
            | false=>rw [nF,cT];exact ⟨_,rfl,rfl⟩
            | true =>
              rw [nT,cF]
              refine ⟨_,rfl,fun i hi=>?_⟩
              by_cases e:i=k
              · subst e;exact hb rfl
              · exact h i (by omega))
          rw [e,bS]
          cases o with
          | fin r=>rw [oF];exact ⟨_,rfl,fun h=>by rw [hq] at h;cases h⟩
          | go _=>rw [oG];exact ⟨_,rfl,fun _=>⟨n,t,par,c1,c2,c3,g,fun i hi=>ho i (by omega),fun i hi=>hq i (by omega)⟩⟩
      · rw [qT (by rw [par.N];omega),cT];exact ⟨_,rfl,fun h=>by cases h⟩
/-- a fair scenario -/
theorem AA {w:ac} {lies words:Int} (hK:∀ x ∈ w.aa,x.K < 18446744073709551616) (hl:lies≤40) (hw:words≤1000):∃ b,gk w lies words=some b∧(b=true→∃ n t,Va w n t∧cJ w=some true):=by
  unfold gk
  by_cases g1:((w.aa.length:Nat):Int) > lies
  · rw [dT g1,cT,bS,cT];exact ⟨_,rfl,fun h=>by cases h⟩
  · rw [dF g1,cF]
    by_cases g2:((w.aE.length:Nat):Int) > 13
    · rw [dT g2,cT,bS,cT];exact ⟨_,rfl,fun h=>by cases h⟩
    · rw [dF g2,cF]
      by_cases g3:((w.ae.length:Nat):Int) > 13
      · rw [dT g3,bS,cT];exact ⟨_,rfl,fun h=>by cases h⟩
      · rw [dF g3,bS,cF,Nat.sub_zero]
        obtain ⟨o,e,ho⟩:=km (body:=fun k1 (st:Unit)=>gz w words k1) (fun k _=>∀ i,i < k→(((w.aE.getD i []).length:Nat):Int)≤words) (fun r=>r=false) (rem:=w.aE.length) (k:=0) (s:=()) (fun i hi=>by omega) (fun k _ _ hk h=>by
          unfold gz
          rw [ix [] (by omega),bS]
          by_cases g:(((w.aE.getD k []).length:Nat):Int) > words
          · rw [dT g,cT];exact ⟨_,rfl,rfl⟩
          · rw [dF g,cF]
            refine ⟨_,rfl,fun i hi=>?_⟩
            by_cases e:i=k
            · subst e;omega
            · exact h i (by omega))
        rw [e,bS]
        cases o with
        | fin r=>rw [oF];exact ⟨_,rfl,fun h=>by rw [ho] at h;cases h⟩
        | go _ =>
          rw [oG]
          obtain ⟨b,eb,hb⟩:=Cg (w:=w)
          rw [eb,bS]
          refine ⟨_,rfl,fun hbt=>?_⟩
          subst hbt
          obtain ⟨n,t,par,c1,c2,c3,c4,c5,c6⟩:=hb rfl
          have hd:∀ x ∈ w.aa,Dv w.S x:=fun x hx=>by
            obtain ⟨i,hi,rfl⟩:=List.getElem_of_mem hx
            have:=c5 i hi
            rw [List.getD_eq_getElem?_getD,List.getElem?_eq_getElem hi] at this
            exact this
          refine ⟨n,t,{ sup:=par.sup,N:=par.N,T:=par.T,n4:=par.n4,n13:=par.n13,t1:=par.t1,t3:=par.t3,cl:=c1,cr:=c2,dl:=by omega,dv:=fun x hx=>?_,ord:=c3,tl:=c4,tb:=fun i hi=>c6 i (by omega),ts:=fun i hi=>by have:=ho i (by omega);omega,full:=fun x hx=>?_ },rfl⟩
          · obtain ⟨d1,d2,d3,d4,d5,d6,d7,d8,d9,d10,d11,d12⟩:=hd x hx
            rw [par.N] at d5 d11
            exact ⟨d4,d5,d2,d3,d10,d11,d12,hK x hx⟩
          · obtain ⟨d1,d2,d3,d4,d5,d6,d7,d8,d9,d10,d11,d12⟩:=hd x hx
            rw [par.N] at d7
            exact ⟨d1,d6,d7,d8,d9⟩
end Pu

/- Plain laws of the reference's small functions, and of opening shares. -/
set_option linter.unusedVariables false
namespace Pu
open Gw Gl Sp Lean.Grind
section
variable {p:Nat} [NeZero p]
end
theorem xM {w:ac} {i:Int}:fu w i=some (decide (i ∉ w.ae)):=by
  unfold fu
  rw [Nat.sub_zero]
  obtain ⟨o,e,ho⟩:=km (body:=fun k1 (st:Unit)=>fN w i k1) (fun k _=>∀ j,j < k→w.ae.getD j 0≠i) (fun r=>r=false∧i ∈ w.ae) (rem:=w.ae.length) (k:=0) (s:=()) (fun i hi=>by omega) (fun k _ _ hk h=>by
    have hkl:k < w.ae.length:=by omega
    unfold fN
    rw [ix 0 hkl,bS]
    by_cases g:w.ae.getD k 0=i
    · rw [eT g,cT]
      refine ⟨_,rfl,rfl,?_⟩
      rw [← g,List.getD_eq_getElem?_getD,List.getElem?_eq_getElem hkl];exact List.getElem_mem hkl
    · rw [eF g,cF]
      refine ⟨_,rfl,fun j hj=>?_⟩
      by_cases e:j=k
      · subst e;exact g
      · exact h j (by omega))
  rw [e,bS]
  cases o with
  | fin r=>rw [oF,ho.1,dF (fun h=>h ho.2)]
  | go _ =>
    rw [oG,dT]
    intro hv
    obtain ⟨j,hj,rfl⟩:=List.getElem_of_mem hv
    apply ho j (by omega)
    rw [List.getD_eq_getElem?_getD,List.getElem?_eq_getElem hj];rfl
theorem uB {l1:List Int}:∀ {l2:List Int},l1.Nodup→(∀ x ∈ l1,x ∈ l2)→l1.length≤l2.length:=by
  induction l1 with
  | nil=>intro l2 _ _;simp
  | cons x t ih =>
    intro l2 hn hs
    have hx:x ∈ l2:=hs x (by simp)
    have hl2:=(List.perm_cons_erase hx).length_eq
    rw [List.nodup_cons] at hn
    have:=ih (l2:=l2.erase x) hn.2 (fun y hy=>(List.mem_erase_of_ne (by intro e;subst e;exact hn.1 hy)).2 (hs y (by simp [hy])))
    simp at hl2 ⊢;omega
end Pu
