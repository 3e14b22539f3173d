/- Plain laws of chapter 19: the view of a coalition does not tell the secret. -/
import Derived.Test.YtahofpgjianhdaaGreatDoorPn3
import Derived.Test.YtahofpgjianhdaaGreatDoorPm3
set_option linter.unusedVariables false
namespace Pu
open Gw Gl Sp
section
variable {p:Nat} [NeZero p]
/-- the products of coefficients, in order of the tape's words -/
def gz (p:Nat) [NeZero p] (z:List Nat) (a:Nat):Fin p:=if a=0 then o p (z.getD 1 0)*o p (z.getD 1 0) else if a=1 then o p (z.getD 1 0)*o p (z.getD 2 0) else o p (z.getD 2 0)*o p (z.getD 2 0)
theorem mx_shift {t:Nat} {f r f' r' z:List Nat} {D:Fin p} (ht:t=1 ∨ t=2) (hf:f.length=t+1) (hr:r.length=t*(t+1) / 2) (hf':f'.length=t+1) (hr':r'.length=t*(t+1) / 2) (hz:z.getD 0 0=1)
    (h1:∀ i,i < t+1→o p (f'.getD i 0)=o p (f.getD i 0)+D*o p (z.getD i 0)) (h2:∀ a,a < t*(t+1) / 2→o p (r'.getD a 0)=o p (r.getD a 0)+D*gz p z a) :
    ∀ i,i < t+1→∀ j,j < t+1→o p (((mx f' r').getD i []).getD j 0)=o p (((mx f r).getD i []).getD j 0)+D*(o p (z.getD i 0)*o p (z.getD j 0)):=by
  have z0:o p (z.getD 0 0)=1:=by rw [hz];exact o_one
  rcases ht with rfl | rfl
  · match f,hf,f',hf' with
    | [a,b],_,[a',b'],_=>match r,hr,r',hr' with
      | [c],_,[c'],_ =>
        have e:mx [a,b] [c]=[[a,b],[b,c]]:=by unfold mx;rw [rnew1];rfl
        have e':mx [a',b'] [c']=[[a',b'],[b',c']]:=by unfold mx;rw [rnew1];rfl
        have g0:o p a'=o p a+D*o p (z.getD 0 0):=h1 0 (by omega)
        have g1:o p b'=o p b+D*o p (z.getD 1 0):=h1 1 (by omega)
        have g2:o p c'=o p c+D*gz p z 0:=h2 0 (by decide)
        have g2:o p c'=o p c+D*(o p (z.getD 1 0)*o p (z.getD 1 0)):=g2
        intro i hi j hj
        have h1:i=0 ∨ i=1:=by omega
        have h2:j=0 ∨ j=1:=by omega
        rw [e,e']
        rcases h1 with rfl | rfl <;> rcases h2 with rfl | rfl
        · show o p a'=o p a+_;rw [g0,z0];grind
        · show o p b'=o p b+_;rw [g1,z0];grind
        · show o p b'=o p b+_;rw [g1,z0];grind
        · show o p c'=o p c+_;rw [g2]
  · match f,hf,f',hf' with
    | [a,b,c],_,[a',b',c'],_=>match r,hr,r',hr' with
      | [d,e,g],_,[d',e',g'],_ =>
        have m1:mx [a,b,c] [d,e,g]=[[a,b,c],[b,d,e],[c,e,g]]:=by unfold mx;rw [rnew2];rfl
        have m2:mx [a',b',c'] [d',e',g']=[[a',b',c'],[b',d',e'],[c',e',g']]:=by unfold mx;rw [rnew2];rfl
        have g0:o p a'=o p a+D*o p (z.getD 0 0):=h1 0 (by omega)
        have g1:o p b'=o p b+D*o p (z.getD 1 0):=h1 1 (by omega)
        have g2:o p c'=o p c+D*o p (z.getD 2 0):=h1 2 (by omega)
        have k0:o p d'=o p d+D*gz p z 0:=h2 0 (by decide)
        have k1:o p e'=o p e+D*gz p z 1:=h2 1 (by decide)
        have k2:o p g'=o p g+D*gz p z 2:=h2 2 (by decide)
        have k0:o p d'=o p d+D*(o p (z.getD 1 0)*o p (z.getD 1 0)):=k0
        have k1:o p e'=o p e+D*(o p (z.getD 1 0)*o p (z.getD 2 0)):=k1
        have k2:o p g'=o p g+D*(o p (z.getD 2 0)*o p (z.getD 2 0)):=k2
        intro i hi j hj
        have h1:i=0 ∨ i=1 ∨ i=2:=by omega
        have h2:j=0 ∨ j=1 ∨ j=2:=by omega
        rw [m1,m2]
        rcases h1 with rfl | rfl | rfl <;> rcases h2 with rfl | rfl | rfl
        · show o p a'=o p a+_;rw [g0,z0];grind
        · show o p b'=o p b+_;rw [g1,z0];grind
        · show o p c'=o p c+_;rw [g2,z0];grind
        · show o p b'=o p b+_;rw [g1,z0];grind
        · show o p d'=o p d+_;rw [k0]
        · show o p e'=o p e+_;rw [k1]
        · show o p c'=o p c+_;rw [g2,z0];grind
        · show o p e'=o p e+_;rw [k1];grind
        · show o p g'=o p g+_;rw [k2]
theorem Rw_shift (hp:Sup p) {t x:Nat} {M M':List (List Nat)} {z:List Nat} {D:Fin p} (hM:Mat p (t+1) (t+1) M) (hM':Mat p (t+1) (t+1) M') (ht:t≤2) (hx:x < p) (hz:z.length=t+1) (h:∀ i,i < t+1→∀ j,j < t+1→o p ((M'.getD i []).getD j 0)=o p ((M.getD i []).getD j 0)+D*(o p (z.getD i 0)*o p (z.getD j 0))) (h0:evl (P p z) (o p x)=0):Rw p M x=Rw p M' x:=by
  obtain ⟨_,_,l1,p1,e1⟩:=Rw_ok hp hM (by omega) hx
  obtain ⟨_,_,l2,p2,e2⟩:=Rw_ok hp hM' (by omega) hx
  rw [evl_P (n:=t+1) (by omega)] at h0
  refine List.ext_getElem? fun j=>?_
  by_cases g:j < t+1
  · rw [ix 0 (by omega),ix 0 (by omega)]
    congr 1
    refine o_inj (Lt.get hp.pos p1 j) (Lt.get hp.pos p2 j) ?_
    rw [e1 j g,e2 j g]
    have:sm (t+1) (fun k=>o p ((M'.getD k []).getD j 0)*o p x ^ k)=sm (t+1) (fun k=>o p ((M.getD k []).getD j 0)*o p x ^ k)+D*o p (z.getD j 0)*sm (t+1) (fun k=>o p (z.getD k 0)*o p x ^ k):=by
      rw [← sm_mul,← sm_add]
      exact sm_congr fun k hk=>by rw [h k hk j g];grind
    rw [this,h0];grind
  · rw [List.getElem?_eq_none (by omega),List.getElem?_eq_none (by omega)]
end
theorem remI_ok {a b:Nat} (hb:0 < b):remI ((a:Nat):Int) ((b:Nat):Int)=some ((a % b:Nat):Int):=by
  unfold remI
  rw [if_neg (by omega),Int.ofNat_tmod]
/-- the first row of the other run -/
theorem first_ok {z:T_privitylaw19_Moved} {zs l:List Nat} {n:Nat} (hp:Sup z.X.W.S.P) (hl:l.length=n) (hz:zs.length=n) (hn:n≤10) (hlp:Lt z.X.W.S.P l) (hzp:Lt z.X.W.S.P zs) (hD:z.D < z.X.W.S.P) :
    ∃ r,lpO (fun (st:(List Nat) × Int)=>privitylaw19_VSSPerfectSecrecy_L0 z zs st.1 st.2) big (l,((0:Nat):Int))=some r∧r.length=n∧Lt z.X.W.S.P r∧∀ c,c < n→r.getD c 0=(l.getD c 0+z.D*zs.getD c 0 % z.X.W.S.P) % z.X.W.S.P:=by
  have hlt:=hp.lt
  obtain ⟨r,e,h1,h2,h3⟩:=lpO_big (step:=fun (st:(List Nat) × Int)=>privitylaw19_VSSPerfectSecrecy_L0 z zs st.1 st.2) (fun s=>s.1.length=n∧Lt z.X.W.S.P s.1∧∃ k:Nat,s.2=(k:Int)∧k≤n∧(∀ c,c < k→s.1.getD c 0=(l.getD c 0+z.D*zs.getD c 0 % z.X.W.S.P) % z.X.W.S.P)∧∀ c,k≤c→s.1.getD c 0=l.getD c 0) (fun r=>r.length=n∧Lt z.X.W.S.P r∧∀ c,c < n→r.getD c 0=(l.getD c 0+z.D*zs.getD c 0 % z.X.W.S.P) % z.X.W.S.P) (fun s=>n - s.2.toNat) (fun s ⟨h1,h2,k,hk,hkn,h3,h4⟩=>by
    obtain ⟨a,x⟩:=s
    simp only at h1 h2 hk h3 h4
    subst hk
    unfold privitylaw19_VSSPerfectSecrecy_L0
    simp only
    by_cases g:k < n
    · have hm:z.D*zs.getD k 0 % z.X.W.S.P < z.X.W.S.P:=Nat.mod_lt _ hp.pos
      have ha:=Lt.get hp.pos h2 k
      have hzk:=Lt.get hp.pos hzp k
      rw [dT (by omega),cT,idx_getD 0 (by omega) (by omega),bS,idx_getD 0 (by omega) (by omega),bS]
      simp only [Int.toNat_natCast]
      rw [refMul_ok hp hD (by omega),bS,refAdd_ok hp (by omega),bS,bS,addI_some (by omega) (by omega),bS]
      refine ⟨_,rfl,⟨by show (a.set k _).length=n;rw [List.length_set];exact h1,Lt_set h2 (Nat.mod_lt _ hp.pos),k+1,by show ((k:Nat):Int)+1=_;omega,by omega,fun c hc=>?_,fun c hc=>?_⟩,by show n - (((k:Nat):Int)+1).toNat < n - ((k:Nat):Int).toNat;omega⟩
      · show (a.set k _).getD c 0=_
        rw [getD_set (by omega)]
        by_cases gc:k=c
        · subst gc;rw [if_pos rfl,h4 k (Nat.le_refl k)]
        · rw [if_neg gc];exact h3 c (by omega)
      · show (a.set k _).getD c 0=_
        rw [getD_set (by omega),if_neg (by omega)];exact h4 c (by omega)
    · rw [dF (by omega),cF]
      exact ⟨_,rfl,h1,h2,fun c hc=>h3 c (by omega)⟩) (s:=(l,((0:Nat):Int))) ⟨hl,hlp,0,rfl,by omega,fun c hc=>by omega,fun c _=>rfl⟩ (by show n - ((0:Nat):Int).toNat < _;omega)
  exact ⟨r,e,h1,h2,h3⟩
/-- the tape of the other run -/
theorem tape_ok {z:T_privitylaw19_Moved} [NeZero z.X.W.S.P] {zs l:List Nat} {t:Nat} (hp:Sup z.X.W.S.P) (ht:t=1 ∨ t=2) (hT:z.X.W.S.T=(t:Int)) (hz:zs.length=t+1) (hl:t*(t+1) / 2≤l.length) (hlp:Lt z.X.W.S.P l) (hzp:Lt z.X.W.S.P zs) (hD:z.D < z.X.W.S.P) :
    ∃ r y,rgS (fun k2 (st:(List Nat) × Int)=>privitylaw19_VSSPerfectSecrecy_L1 z zs ((t*(t+1) / 2:Nat):Int) k2 st.1 st.2) t 1 (l,((0:Nat):Int))=some (r,y)∧r.length=l.length∧Lt z.X.W.S.P r∧(∀ a,a < t*(t+1) / 2→o z.X.W.S.P (r.getD a 0)=o z.X.W.S.P (l.getD a 0)+o z.X.W.S.P z.D*gz z.X.W.S.P zs a)∧∀ a,t*(t+1) / 2≤a→r.getD a 0=l.getD a 0:=by
  have hlt:=hp.lt
  obtain ⟨⟨r,y⟩,e,h1,h2,h3,h4,h5⟩:=rgS_inv (body:=fun k2 (st:(List Nat) × Int)=>privitylaw19_VSSPerfectSecrecy_L1 z zs ((t*(t+1) / 2:Nat):Int) k2 st.1 st.2) (fun k st=>st.1.length=l.length∧Lt z.X.W.S.P st.1∧st.2=((if k=1 then 0 else k+t - 2:Nat):Int)∧(∀ a,a < (if k=1 then 0 else k+t - 2)→o z.X.W.S.P (st.1.getD a 0)=o z.X.W.S.P (l.getD a 0)+o z.X.W.S.P z.D*gz z.X.W.S.P zs a)∧∀ a,(if k=1 then 0 else k+t - 2)≤a→st.1.getD a 0=l.getD a 0) (rem:=t) (k:=1) (s:=(l,((0:Nat):Int)))
    ⟨rfl,hlp,rfl,fun a ha=>by rw [if_pos rfl] at ha;omega,fun a _=>rfl⟩ (fun k st hk1 hk ⟨h1,h2,h3,h4,h5⟩=>by
      obtain ⟨a0,x0⟩:=st
      simp only at h1 h2 h3 h4 h5
      have hst:(if k=1 then 0 else k+t - 2)=k+k - 2:=by
        by_cases g:k=1
        · rw [if_pos g];omega
        · rw [if_neg g];omega
      rw [hst] at h3 h4 h5
      have hen:(if k+1=1 then 0 else k+1+t - 2)=k+t - 1:=by rw [if_neg (by omega)];omega
      rw [hen]
      obtain ⟨r,e,g1,g2,g3,g4,g5⟩:=lpO_big (step:=fun (st:(List Nat) × Int × Int)=>privitylaw19_VSSPerfectSecrecy_L2 z zs ((t*(t+1) / 2:Nat):Int) k st.1 st.2.1 st.2.2) (fun s=>∃ j:Nat,s.2.2=(j:Int)∧k≤j∧j≤t+1∧s.2.1=((k+j - 2:Nat):Int)∧s.1.length=l.length∧Lt z.X.W.S.P s.1∧(∀ a,a < k+j - 2→o z.X.W.S.P (s.1.getD a 0)=o z.X.W.S.P (l.getD a 0)+o z.X.W.S.P z.D*gz z.X.W.S.P zs a)∧∀ a,k+j - 2≤a→s.1.getD a 0=l.getD a 0)
        (fun r=>r.1.length=l.length∧Lt z.X.W.S.P r.1∧r.2=((k+t - 1:Nat):Int)∧(∀ a,a < k+t - 1→o z.X.W.S.P (r.1.getD a 0)=o z.X.W.S.P (l.getD a 0)+o z.X.W.S.P z.D*gz z.X.W.S.P zs a)∧∀ a,k+t - 1≤a→r.1.getD a 0=l.getD a 0) (fun s=>t+1 - s.2.2.toNat) (fun s ⟨j,hj,hj1,hj2,g1,g2,g3,g4,g5⟩=>by
          obtain ⟨a1,x1,x2⟩:=s
          simp only at hj g1 g2 g3 g4 g5
          subst hj;subst g1
          unfold privitylaw19_VSSPerfectSecrecy_L2
          simp only
          rw [hT]
          by_cases g:j≤t
          · have hat:k+j - 2 < t*(t+1) / 2:=by
              rcases ht with rfl | rfl
              · show k+j - 2 < 1;omega
              · show k+j - 2 < 3;omega
            have hzk:=Lt.get hp.pos hzp k
            have hzj:=Lt.get hp.pos hzp j
            have ha:=Lt.get hp.pos g3 (k+j - 2)
            have hm1:zs.getD k 0*zs.getD j 0 % z.X.W.S.P < z.X.W.S.P:=Nat.mod_lt _ hp.pos
            have hm2:z.D*(zs.getD k 0*zs.getD j 0 % z.X.W.S.P) % z.X.W.S.P < z.X.W.S.P:=Nat.mod_lt _ hp.pos
            rw [dT (by omega),cT,bS,dT (by omega),cT,idx_getD 0 (by omega) (by omega),bS,ix 0 (by omega),bS,idx_getD 0 (by omega) (by omega),bS]
            simp only [Int.toNat_natCast]
            rw [refMul_ok hp hzk (by omega),bS,refMul_ok hp hD (by omega),bS,refAdd_ok hp (by omega),bS,bS,addI_some (by omega) (by omega),bS,addI_some (by omega) (by omega),bS]
            refine ⟨_,rfl,⟨j+1,by show ((j:Nat):Int)+1=_;omega,by omega,by omega,by show ((k+j - 2:Nat):Int)+1=_;omega,by show (a1.set _ _).length=_;rw [List.length_set];exact g2,Lt_set g3 (Nat.mod_lt _ hp.pos),fun a ha=>?_,fun a ha=>?_⟩,by show t+1 - (((j:Nat):Int)+1).toNat < t+1 - ((j:Nat):Int).toNat;omega⟩
            · show o _ ((a1.set (k+j - 2) _).getD a 0)=_
              rw [getD_set (by omega)]
              by_cases gc:k+j - 2=a
              · subst gc
                rw [if_pos rfl,o_mod,o_add,o_mod,o_mul,o_mod,o_mul,g5 _ (Nat.le_refl _)]
                have:gz z.X.W.S.P zs (k+j - 2)=o z.X.W.S.P (zs.getD k 0)*o z.X.W.S.P (zs.getD j 0):=by
                  have:(k=1∧j=1) ∨ (k=1∧j=2) ∨ (k=2∧j=2):=by omega
                  rcases this with ⟨rfl,rfl⟩ | ⟨rfl,rfl⟩ | ⟨rfl,rfl⟩ <;> rfl
                rw [this]
              · rw [if_neg gc];exact g4 a (by omega)
            · show (a1.set (k+j - 2) _).getD a 0=_
              rw [getD_set (by omega),if_neg (by omega)];exact g5 a (by omega)
          · have hjt:j=t+1:=by omega
            subst hjt
            rw [dF (by omega),cF,bS,cF]
            have e1:k+(t+1) - 2=k+t - 1:=by omega
            rw [e1] at g4 g5 ⊢
            exact ⟨_,rfl,g2,g3,rfl,g4,g5⟩) (s:=(a0,x0,((k:Nat):Int))) ⟨k,rfl,Nat.le_refl k,by omega,h3,h1,h2,h4,h5⟩ (by show t+1 - ((k:Nat):Int).toNat < _;omega)
      unfold privitylaw19_VSSPerfectSecrecy_L1
      simp only
      rw [e,bS]
      exact ⟨_,rfl,g1,g2,g3,g4,g5⟩)
  have hen:(if 1+t=1 then 0 else 1+t+t - 2)=t*(t+1) / 2:=by
    rcases ht with rfl | rfl <;> rfl
  rw [hen] at h4 h5
  exact ⟨r,y,e,h1,h2,h4,h5⟩
theorem rst_congr {l l':List Nat} {t k:Nat} (hl:l'.length=l.length) (h:∀ a,t*(t+1) / 2≤a→l'.getD a 0=l.getD a 0) (hk:1≤k):rst l' t k=rst l t k:=by
  unfold rst
  congr 1
  have hle:1*(t*(t+1) / 2)≤k*(t*(t+1) / 2):=Nat.mul_le_mul_right _ hk
  refine List.ext_getElem? fun i=>?_
  rw [List.getElem?_drop,List.getElem?_drop]
  by_cases g:k*(t*(t+1) / 2)+i < l.length
  · rw [ix 0 (by omega),ix 0 g,h _ (by omega)]
  · rw [List.getElem?_eq_none (by omega),List.getElem?_eq_none (by omega)]
theorem rst_get {l:List Nat} {t a:Nat} (ha:a < t*(t+1) / 2):(rst l t 0).getD a 0=l.getD a 0:=by
  unfold rst
  rw [Nat.zero_mul,List.drop_zero,List.getD_eq_getElem?_getD,List.getElem?_take,if_pos ha,← List.getD_eq_getElem?_getD]
end Pu
