/- Plain laws of chapter 19: sums and products of polynomials. -/
import Derived.Test.YtahofpgjianhdaaGreatDoorPl1
set_option linter.unusedVariables false
namespace Pu
open Gw Gl Sp
section
variable {p:Nat} [NeZero p]
theorem put_ok (hp:Sup p) {f:List Nat} {i k:Nat} (hf:Lt p f) (hl:f.length≤900) (hi:i≤900) (hk:k < p) :
    ∃ r,poly_sum_put ⟨p,f⟩ ((i:Nat):Int) k=some r∧Lt p r∧r.length=max f.length (i+1)∧∀ x,evl (P p r) x=evl (P p f) x+o p k*x ^ i:=by
  have hlt:=hp.lt
  unfold poly_sum_put
  obtain ⟨l,e,hll,hg,hil⟩:=lpO_big (step:=fun (st:(List Nat))=>poly_sum_put_L0 ((i:Nat):Int) st) (fun l=>(l=f ∨ (l.length≤i+1∧f.length≤l.length))∧∀ j,l.getD j 0=f.getD j 0) (fun l=>l.length=max f.length (i+1)∧(∀ j,l.getD j 0=f.getD j 0)∧i < l.length) (fun l=>i+1 - l.length) (fun l ⟨h1,h2⟩=>by
    unfold poly_sum_put_L0
    have hll:l.length≤901:=by
      rcases h1 with h1 | h1
      · subst h1;omega
      · omega
    by_cases g:l.length≤i
    · rw [dT (by omega),cT,appO_some (by simp only [List.length_cons,List.length_nil];omega) (by simp only [List.length_cons,List.length_nil];omega),bS]
      refine ⟨_,rfl,⟨.inr ?_,fun j=>?_⟩,by simp only [List.length_append,List.length_cons,List.length_nil];omega⟩
      · simp only [List.length_append,List.length_cons,List.length_nil]
        rcases h1 with h1 | h1
        · subst h1;omega
        · omega
      · rw [← h2 j]
        by_cases gj:j < l.length
        · rw [getD_app_l gj]
        · by_cases ge:j=l.length
          · rw [getD_app_e ge,getD_ge (by omega)]
          · rw [getD_ge (by simp;omega),getD_ge (by omega)]
    · rw [dF (by omega),cF]
      refine ⟨_,rfl,?_,h2,by omega⟩
      rcases h1 with h1 | h1
      · subst h1;omega
      · omega) (s:=f) ⟨.inl rfl,fun _=>rfl⟩ (by omega)
  have hlp:∀ j,l.getD j 0 < p:=fun j=>by rw [hg j];exact Lt.get hp.pos hf j
  have hx:=hlp i
  simp only
  rw [e,bS,idx_getD 0 (by omega) (by omega),bS,Int.toNat_natCast,add_ok hp (by omega),bS,bS]
  refine ⟨_,rfl,fun j hj=>?_,by rw [List.length_set];exact hll,fun x=>?_⟩
  · rw [getD_set hil]
    split
    · exact Nat.mod_lt _ hp.pos
    · exact hlp j
  · rw [evl_P (n:=l.length) (by rw [List.length_set];exact Nat.le_refl _),evl_P (f:=f) (n:=l.length) (by omega)]
    exact sm_upd hil _ _ _ (by rw [getD_set hil,if_pos rfl,o_mod,o_add,hg i];grind) (fun j hj hne=>by rw [getD_set hil,if_neg (fun h=>hne h.symm),hg j])
/-- a loop that adds terms -/
theorem puts_ok (hp:Sup p) {body:Nat→List Nat→Option (List Nat)} {v:Nat→Nat} {n s:Nat} {l0:List Nat} (h0:Lt p l0) (hl0:l0.length≤800) (hs:s+n≤800) (hv:∀ k,k < n→v k < p)
    (hb:∀ k l,k < n→body k l=poly_sum_put ⟨p,l⟩ ((s+k:Nat):Int) (v k)) :
    ∃ r,rgS body n 0 l0=some r∧Lt p r∧r.length≤max l0.length (s+n)∧∀ x,evl (P p r) x=evl (P p l0) x+sm n (fun k=>o p (v k)*x ^ (s+k)):=by
  obtain ⟨r,e,h1,h2,h3⟩:=rgS_inv (body:=body) (fun k l=>Lt p l∧l.length≤max l0.length (s+k)∧∀ x,evl (P p l) x=evl (P p l0) x+sm k (fun k=>o p (v k)*x ^ (s+k))) (rem:=n) (k:=0) (s:=l0)
    ⟨h0,by omega,fun x=>by simp only [sm];grind⟩ (fun k l _ hk ⟨h1,h2,h3⟩=>by
      obtain ⟨r,er,r1,r2,r3⟩:=put_ok hp (i:=s+k) (k:=v k) h1 (by omega) (by omega) (hv k (by omega))
      refine ⟨r,by rw [hb k l (by omega),er],r1,by omega,fun x=>?_⟩
      rw [r3 x,h3 x,sm];grind)
  rw [Nat.zero_add] at h2 h3
  exact ⟨r,e,h1,h2,h3⟩
theorem trimP_ok (hp:Sup p) {f:List Nat} (hf:Lt p f) (h:f.length≤1000):∃ t,poly_Trim f=some t∧t.length≤f.length∧Lt p t∧(∀ i,t.getD i 0=f.getD i 0)∧∀ x,evl (P p t) x=evl (P p f) x:=by
  obtain ⟨t,e,h1,h2,_⟩:=trim_ok h
  exact ⟨t,e,h1,fun i _=>by rw [h2 i];exact Lt.get hp.pos hf i,h2,fun x=>P_congr h2 x⟩
theorem pmul_ok (hp:Sup p) {a b:List Nat} (ha:Lt p a) (hb:Lt p b) (hal:a.length≤100) (hbl:b.length≤100):∃ r,poly_Mul p a b=some r∧Lt p r∧r.length≤a.length+b.length - 1∧∀ x,evl (P p r) x=evl (P p a) x*evl (P p b) x:=by
  unfold poly_Mul
  rw [Nat.sub_zero]
  obtain ⟨l,e,h1,h2,h3⟩:=rgS_inv (body:=fun k1 (st:(List Nat))=>poly_Mul_L0 p a b k1 st) (fun k l=>Lt p l∧l.length≤(if k=0 then 0 else k+b.length - 1)∧∀ x,evl (P p l) x=sm k (fun i=>o p (a.getD i 0)*x ^ i)*evl (P p b) x) (rem:=a.length) (k:=0) (s:=([]:List Nat))
    ⟨fun i hi=>by simp at hi,by simp,fun x=>by simp only [sm,P,List.map_nil,evl];grind⟩ (fun k l _ hk ⟨h1,h2,h3⟩=>by
      have hak:=Lt.get hp.pos ha k
      have hll:l.length≤250:=by split at h2 <;> omega
      obtain ⟨r,er,r1,r2,r3⟩:=puts_ok hp (body:=fun k2 (st:(List Nat))=>poly_Mul_L1 p b k (a.getD k 0) k2 st) (v:=fun j=>a.getD k 0*b.getD j 0 % p) (n:=b.length) (s:=k) h1 (by omega) (by omega) (fun j hj=>Nat.mod_lt _ hp.pos) (fun j l' hj=>by
        have e1:((k:Nat):Int)+((j:Nat):Int)=((k+j:Nat):Int):=by omega
        unfold poly_Mul_L1
        rw [ix 0 hj,bS,addI_some (by omega) (by omega),bS,e1,mul_ok hp hak (Lt.get hp.pos hb j),bS]
        cases poly_sum_put ⟨p,l'⟩ ((k+j:Nat):Int) (a.getD k 0*b.getD j 0 % p) <;> rfl)
      unfold poly_Mul_L0
      rw [ix 0 (by omega),bS,Nat.sub_zero,er,bS]
      refine ⟨r,rfl,r1,?_,fun x=>?_⟩
      · rw [if_neg (by omega)]
        split at h2 <;> omega
      · rw [r3 x,h3 x,sm,evl_P (f:=b) (n:=b.length) (Nat.le_refl _)]
        have:sm b.length (fun j=>o p (a.getD k 0*b.getD j 0 % p)*x ^ (k+j))=o p (a.getD k 0)*x ^ k*sm b.length (fun j=>o p (b.getD j 0)*x ^ j):=by
          rw [← sm_mul]
          exact sm_congr fun j _=>by rw [o_mod,o_mul];grind
        rw [this];grind)
  rw [Nat.zero_add] at h2 h3
  have hll:l.length≤250:=by split at h2 <;> omega
  obtain ⟨t,et,t1,t2,_,t4⟩:=trimP_ok hp h1 (by omega)
  rw [e,bS,et,bS]
  refine ⟨t,rfl,t2,by split at h2 <;> omega,fun x=>?_⟩
  rw [t4 x,h3 x,evl_P (f:=a) (n:=a.length) (Nat.le_refl _)]
theorem pscale_ok (hp:Sup p) {a:List Nat} {k:Nat} (ha:Lt p a) (hk:k < p) (hal:a.length≤800):∃ r,poly_Scale p k a=some r∧Lt p r∧r.length≤a.length∧∀ x,evl (P p r) x=o p k*evl (P p a) x:=by
  unfold poly_Scale
  rw [mkO_some (by omega) (by omega) (by omega) (by omega),bS,Nat.sub_zero,Int.toNat_natCast]
  obtain ⟨l,e,h1,h2,h3⟩:=rgS_inv (body:=fun k1 (st:(List Nat))=>poly_Scale_L0 p k a k1 st) (fun j l=>l.length=a.length∧(∀ i,i < j→l.getD i 0=k*a.getD i 0 % p)∧∀ i,j≤i→l.getD i 0=0) (rem:=a.length) (k:=0) (s:=List.replicate a.length 0)
    ⟨by simp,fun i hi=>by omega,fun i _=>by rw [List.getD_eq_getElem?_getD,List.getElem?_replicate];split <;> rfl⟩ (fun j l _ hj ⟨h1,h2,h3⟩=>by
      unfold poly_Scale_L0
      rw [ix 0 (by omega),bS,mul_ok hp hk (Lt.get hp.pos ha j),bS,ix 0 (by omega),bS,bS]
      refine ⟨_,rfl,by rw [List.length_set];exact h1,fun i hi=>?_,fun i hi=>?_⟩
      · rw [getD_set (by omega)]
        by_cases g:j=i
        · rw [if_pos g,g]
        · rw [if_neg g];exact h2 i (by omega)
      · rw [getD_set (by omega),if_neg (by omega)];exact h3 i (by omega))
  rw [Nat.zero_add] at h2 h3
  have hL:Lt p l:=fun i hi=>by rw [h2 i (by omega)];exact Nat.mod_lt _ hp.pos
  obtain ⟨t,et,t1,t2,_,t4⟩:=trimP_ok hp hL (by omega)
  rw [e,bS,et,bS]
  refine ⟨t,rfl,t2,by omega,fun x=>?_⟩
  rw [t4 x,evl_P (f:=l) (n:=a.length) (by omega),evl_P (f:=a) (n:=a.length) (Nat.le_refl _),← sm_mul]
  exact sm_congr fun j hj=>by rw [h2 j hj,o_mod,o_mul];grind
theorem padd_ok (hp:Sup p) {a b:List Nat} (ha:Lt p a) (hb:Lt p b) (hal:a.length≤400) (hbl:b.length≤400):∃ r,poly_Add p a b=some r∧Lt p r∧r.length≤max a.length b.length∧∀ x,evl (P p r) x=evl (P p a) x+evl (P p b) x:=by
  unfold poly_Add
  rw [Nat.sub_zero,Nat.sub_zero]
  obtain ⟨l1,e1,h1,h2,h3⟩:=puts_ok hp (body:=fun k1 (st:(List Nat))=>poly_Add_L0 p a k1 st) (v:=fun j=>a.getD j 0) (n:=a.length) (s:=0) (l0:=[]) (fun i hi=>by simp at hi) (by simp) (by omega) (fun j _=>Lt.get hp.pos ha j) (fun j l' hj=>by
    unfold poly_Add_L0
    rw [ix 0 hj,bS,Nat.zero_add]
    cases poly_sum_put ⟨p,l'⟩ ((j:Nat):Int) (a.getD j 0) <;> rfl)
  rw [e1,bS]
  obtain ⟨l2,e2,g1,g2,g3⟩:=puts_ok hp (body:=fun k2 (st:(List Nat))=>poly_Add_L1 p b k2 st) (v:=fun j=>b.getD j 0) (n:=b.length) (s:=0) h1 (by simp at h2;omega) (by omega) (fun j _=>Lt.get hp.pos hb j) (fun j l' hj=>by
    unfold poly_Add_L1
    rw [ix 0 hj,bS,Nat.zero_add]
    cases poly_sum_put ⟨p,l'⟩ ((j:Nat):Int) (b.getD j 0) <;> rfl)
  have hl2:l2.length≤max a.length b.length:=by simp at h2;omega
  obtain ⟨t,et,t1,t2,_,t4⟩:=trimP_ok hp g1 (by omega)
  rw [e2,bS,et,bS]
  refine ⟨t,rfl,t2,by omega,fun x=>?_⟩
  have hn:evl (P p []) x=0:=rfl
  rw [t4 x,g3 x,h3 x,hn,evl_P (f:=a) (n:=a.length) (Nat.le_refl _),evl_P (f:=b) (n:=b.length) (Nat.le_refl _)]
  simp only [Nat.zero_add];grind
end
end Pu
