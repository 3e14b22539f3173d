/- Plain laws of chapter 19: interpolation, reconstruction. -/
import Derived.Test.YtahofpgjianhdaaGreatDoorPl2
set_option linter.unusedVariables false
namespace Pu
open Gw Gl Sp
section
variable {p:Nat} [NeZero p]
theorem oth_ok (hp:Sup p) {xs:List Nat} {X:Nat→Nat} {n i:Nat} {pt:T_api_Point} (hl:xs.length=n) (hn:n≤7) (hX:∀ j,j < n→xs[j]?=some (X j)∧X j < p) (hi:i < n) (hpt:pt.X < p) :
    ∃ f d,interpolate_others_interpolate_Polynomial_1 xs ((i:Nat):Int) p [1] 1 pt=some (f,d)∧Lt p f∧f.length≤n∧d < p∧(∀ y,evl (P p f) y=pd (fun j=>o p (X j)) i y n)∧o p d=pd (fun j=>o p (X j)) i (o p pt.X) n:=by
  have hlt:=hp.lt
  unfold interpolate_others_interpolate_Polynomial_1
  rw [hl,Nat.sub_zero]
  obtain ⟨⟨f,d⟩,e,h1,h2,h3,h4,h5⟩:=rgS_inv (body:=fun k1 (st:(List Nat) × Nat)=>interpolate_others_interpolate_Polynomial_1_L0 xs ((i:Nat):Int) p pt k1 st.1 st.2) (rem:=n) (k:=0) (s:=([1],1))
    (fun k st=>Lt p st.1∧st.1.length+(if i < k then 1 else 0)≤k+1∧st.2 < p∧(∀ y,evl (P p st.1) y=pd (fun j=>o p (X j)) i y k)∧o p st.2=pd (fun j=>o p (X j)) i (o p pt.X) k)
    ⟨fun j hj=>by
      have:j=0:=by simpa using hj
      subst this;show 1 < p;omega,by simp,by show 1 < p;omega,fun y=>by simp only [P,List.map_cons,List.map_nil,evl,pd,o_one];grind,by simp only [pd,o_one]⟩ (fun k st _ hk ⟨h1,h2,h3,h4,h5⟩=>by
      obtain ⟨f,d⟩:=st
      simp only at h1 h2 h3 h4 h5
      have hkn:k < n:=by omega
      obtain ⟨x1,x2⟩:=hX k hkn
      unfold interpolate_others_interpolate_Polynomial_1_L0
      rw [x1,bS]
      by_cases g:k=i
      · subst g
        rw [qF rfl,cF]
        refine ⟨_,rfl,h1,?_,h3,fun y=>?_,?_⟩
        · simp only
          rw [if_neg (by omega)] at h2
          rw [if_pos (by omega)];omega
        · simp only
          rw [h4 y,pd,if_pos rfl]
        · simp only
          rw [h5,pd,if_pos rfl]
      · have hb:Lt p [(p - X k) % p,1]:=fun j hj=>by
          have:j=0 ∨ j=1:=by simp at hj;omega
          rcases this with rfl | rfl
          · exact Nat.mod_lt _ hp.pos
          · show 1 < p;omega
        have hfl:f.length≤8:=by split at h2 <;> omega
        obtain ⟨r,er,r1,r2,r3⟩:=pmul_ok hp h1 hb (by omega) (by simp)
        have hs:(pt.X+(p - X k) % p) % p < p:=Nat.mod_lt _ hp.pos
        unfold interpolate_Polynomial_1
        rw [qT (by omega),cT,neg_ok hp x2,bS,er,bS,sub_ok hp hpt x2,bS,mul_ok hp h3 hs,bS,bS]
        refine ⟨_,rfl,r1,?_,Nat.mod_lt _ hp.pos,fun y=>?_,?_⟩
        · simp only
          have e2:[(p - X k) % p,1].length=2:=rfl
          rw [e2] at r2
          split at h2
          · rw [if_pos (by omega)];omega
          · rw [if_neg (by omega)];omega
        · simp only
          rw [r3 y,h4 y,pd,if_neg g]
          simp only [P,List.map_cons,List.map_nil,evl]
          rw [o_neg' x2,o_one];grind
        · simp only
          rw [o_mod,o_mul,o_sub' x2,h5,pd,if_neg g])
  rw [Nat.zero_add] at h2 h4 h5
  simp only at h1 h2 h3 h4 h5
  rw [if_pos hi] at h2
  rw [e,bS]
  exact ⟨f,d,rfl,h1,by omega,h3,h4,h5⟩
theorem over_ok (hp:Sup p) {a b:Nat} (ha:a < p) (hb:b < p) (h0:b≠0):∃ r,interpolate_over p a b=some r∧r < p∧o p r*o p b=o p a:=by
  unfold interpolate_over
  rw [inv_ok hp hb h0,bS]
  simp only
  rw [mul_ok hp ha (pow_lt hp),bS]
  refine ⟨_,rfl,Nat.mod_lt _ hp.pos,?_⟩
  have h1:=hp.oinv (a:=b) (by rw [Nat.mod_eq_of_lt hb];exact h0)
  rw [o_mod,o_mul]
  have:o p a*o p (pow p b (p - 2))*o p b=o p a*(o p (pow p b (p - 2))*o p b):=by grind
  rw [this,h1];grind
theorem interp_ok (hp:Sup p) {pts:List T_api_Point} {X Y:Nat→Nat} (hx:Px p pts X Y) (h1:1≤pts.length) (h7:pts.length≤7) :
    ∃ g,interpolate_Polynomial p pts=some (g,0)∧Lt p g∧g.length≤pts.length∧∀ i,i < pts.length→evl (P p g) (o p (X i))=o p (Y i):=by
  have hlt:=hp.lt
  have e1:rgS (fun k1 (st:(List Nat))=>interpolate_Polynomial_L0 pts k1 st) pts.length 0 ([]:List Nat)=some ((List.range pts.length).map X):=rgS_tab' X (fun k l hk hl=>by
    unfold interpolate_Polynomial_L0
    rw [hx.x k hk,bS,appO_some (by simp only [List.length_cons,List.length_nil];omega) (by simp only [List.length_cons,List.length_nil];omega),bS])
  have hnd:((List.range pts.length).map X).Nodup:=by
    rw [List.Nodup,List.pairwise_iff_getElem]
    intro i j hi hj hij
    simp only [List.length_map,List.length_range] at hi hj
    simp only [List.getElem_map,List.getElem_range]
    exact hx.ne i j hi hj (by omega)
  unfold interpolate_Polynomial
  rw [Nat.sub_zero,e1,bS,unlike_ok hnd (by simp;exact h1) (by simp;exact h7),bS,nT,cF]
  obtain ⟨l,e2,g1,g2,g3⟩:=rgS_inv (body:=fun k2 (st:(List Nat))=>interpolate_Polynomial_L1 p pts ((List.range pts.length).map X) k2 st) (fun k l=>Lt p l∧l.length≤pts.length∧∀ i,i < pts.length→evl (P p l) (o p (X i))=if i < k then o p (Y i) else 0) (rem:=pts.length) (k:=0) (s:=([]:List Nat))
    ⟨fun i hi=>by simp at hi,by simp,fun i hi=>by rw [if_neg (by omega)];rfl⟩ (fun k l _ hk ⟨g1,g2,g3⟩=>by
      have hkn:k < pts.length:=by omega
      obtain ⟨x0,x1,x2⟩:=hx.lt k hkn
      obtain ⟨f,d,e3,f1,f2,f3,f4,f5⟩:=oth_ok hp (xs:=(List.range pts.length).map X) (X:=X) (n:=pts.length) (i:=k) (pt:=⟨X k,Y k⟩) (by simp) h7 (fun j hj=>⟨by rw [List.getElem?_map,List.getElem?_range hj];rfl,(hx.lt j hj).2.1⟩) hkn x1
      have hd0:o p d≠0:=by
        rw [f5]
        refine pd_ne hp fun j hj hjk e=>?_
        have h2:o p (X k)=o p (X j):=by
          have e:o p (X k) - o p (X j)=0:=e
          grind
        exact hx.ne k j hkn hj (fun h=>hjk h.symm) (o_inj x1 (hx.lt j hj).2.1 h2)
      obtain ⟨r,er,r1,r2⟩:=over_ok hp x2 f3 (fun h=>hd0 (by rw [h];exact o_zero))
      obtain ⟨s,es,s1,s2,s3⟩:=pscale_ok hp f1 r1 (by omega)
      obtain ⟨u,eu,u1,u2,u3⟩:=padd_ok hp g1 s1 (by omega) (by omega)
      unfold interpolate_Polynomial_L1
      rw [hx.x k hkn,bS,e3,bS]
      simp only
      rw [er,bS,es,bS,eu,bS]
      refine ⟨u,rfl,u1,by omega,fun i hi=>?_⟩
      rw [u3,s3,g3 i hi,f4]
      by_cases gi:i=k
      · subst gi
        rw [if_neg (by omega),if_pos (by omega)]
        have f5:o p d=pd (fun j=>o p (X j)) i (o p (X i)) pts.length:=f5
        rw [← f5,r2];grind
      · have:=pd_zero (X:=fun j=>o p (X j)) (i:=k) (j:=i) gi hi
        rw [this]
        by_cases g:i < k
        · rw [if_pos g,if_pos (by omega)];grind
        · rw [if_neg g,if_neg (by omega)];grind)
  rw [Nat.zero_add] at g3
  obtain ⟨q,eq,q1,q2,_,q4⟩:=trimP_ok hp g1 (by omega)
  rw [e2,bS,eq,bS]
  exact ⟨q,rfl,q2,by omega,fun i hi=>by rw [q4,g3 i hi,if_pos hi]⟩
/-- reconstruction from points of a polynomial of degree at most t -/
theorem recon_ok (hp:Sup p) {pts:List T_api_Point} {X Y:Nat→Nat} {t:Nat} {f:List Nat} (hx:Px p pts X Y) (h1:t+1≤pts.length) (h7:pts.length≤7) (hf:Lt p f) (hfl:f.length≤t+1) (hY:∀ i,i < pts.length→o p (Y i)=evl (P p f) (o p (X i))) :
    shamir_Reconstruct p ((t:Nat):Int) pts=some (f.getD 0 0,0):=by
  obtain ⟨g,e,g1,g2,g3⟩:=interp_ok hp hx (by omega) h7
  have hnd:((List.range pts.length).map fun i=>o p (X i)).Nodup:=by
    rw [List.Nodup,List.pairwise_iff_getElem]
    intro i j hi hj hij
    simp only [List.length_map,List.length_range] at hi hj
    simp only [List.getElem_map,List.getElem_range]
    exact fun e=>hx.ne i j hi hj (by omega) (o_inj (hx.lt i hi).2.1 (hx.lt j hj).2.1 e)
  have hcf:=eq_of_evl hp.nz (f:=P p g) (g:=P p f) hnd (by rw [P_len];simp;exact g2) (by rw [P_len];simp;omega) (fun x hxm=>by
    obtain ⟨i,hi,rfl⟩:=List.mem_map.1 hxm
    have hi:i < pts.length:=by simpa using hi
    rw [g3 i hi,hY i hi])
  have hgd:∀ i,g.getD i 0=f.getD i 0:=fun i=>by
    have:=hcf i
    rw [P_cf,P_cf] at this
    exact o_inj (Lt.get hp.pos g1 i) (Lt.get hp.pos hf i) this
  obtain ⟨k,k1,k2,k3,k4⟩:=degree_ok (f:=g) (by omega)
  have hk:k≤t+1:=by
    rcases k4 with k4 | k4
    · omega
    · apply Classical.byContradiction
      intro hc
      exact k4 (by rw [hgd];exact getD_ge (by omega))
  have hc:=coef_ok (f:=g) (i:=0) (by omega)
  unfold shamir_Reconstruct
  rw [dF (by omega),cF,placed_ok hx,bS,nT,cF,dF (by omega),bS,cF,e,bS]
  simp only
  rw [qF rfl,cF,k2,bS,dF (by omega),cF,hc,bS,hgd]
  rfl
end
end Pu
