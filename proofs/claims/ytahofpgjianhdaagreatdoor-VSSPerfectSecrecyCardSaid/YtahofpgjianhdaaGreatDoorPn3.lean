/- Plain laws of chapter 19: the vanishing polynomial of the coalition. -/
import Derived.Test.YtahofpgjianhdaaGreatDoorPn2
set_option linter.unusedVariables false
namespace Pu
open Gw Gl Sp
theorem remU_ok' {a p:Nat} (hp:0 < p):remU a p=some (a % p):=by unfold remU;rw [if_neg (by omega)]
theorem refPow_ok {p a n:Nat} (hp:Sup p) (ha:a < p) (hn:n < 18446744073709551616):privityref01_Pow p a n=some (a ^ n % p):=by
  have hl:=hp.lt
  unfold privityref01_Pow
  obtain ⟨r,e,hr⟩:=lpO_big (step:=fun (st:Nat × Nat × Nat)=>privityref01_Pow_L0 p st.1 st.2.1 st.2.2)
    (fun st=>st.1 < p∧st.2.1 < 18446744073709551616∧st.2.2 < p∧st.2.2*st.1 ^ st.2.1 % p=a ^ n % p)
    (fun r=>r=a ^ n % p) (fun st=>st.2.1) (fun st ⟨h1,h2,h3,h4⟩=>by
      obtain ⟨x,m,o⟩:=st
      simp only at h1 h2 h3 h4
      show ∃ q,privityref01_Pow_L0 p x m o=some q∧_
      unfold privityref01_Pow_L0
      by_cases c:m=0
      · subst c
        rw [dF (by simp),cF]
        refine ⟨_,rfl,?_⟩
        show o=_
        rw [← h4];simp [Nat.mod_eq_of_lt h3]
      · rw [dT (by simp;omega),cT]
        have d2:divU m 2=some (m / 2):=by unfold divU;rw [if_neg (by decide),Nat.mod_eq_of_lt (by omega)]
        rw [remU_ok' (by decide),bS]
        by_cases g:m % 2=1
        · rw [eT (by omega),cT,refMul_ok hp h3 (by omega),bS,refMul_ok hp h1 (by omega),bS,d2,bS]
          exact ⟨_,rfl,⟨Nat.mod_lt _ hp.pos,by show m / 2 < _;omega,Nat.mod_lt _ hp.pos,pow_odd h4 g⟩,by show m / 2 < m;omega⟩
        · rw [eF (by omega),cF,refMul_ok hp h1 (by omega),bS,d2,bS]
          exact ⟨_,rfl,⟨Nat.mod_lt _ hp.pos,by show m / 2 < _;omega,h3,pow_even h4 (by omega)⟩,by show m / 2 < m;omega⟩)
    (s:=(a,n,1)) ⟨ha,hn,(show (1:Nat) < p by omega),by simp⟩ hn
  rw [e,bS,hr]
theorem refInv_ok {p a:Nat} (hp:Sup p) (ha:a < p) (h0:a≠0):privityref01_Inverse p a=some (pow p a (p - 2),0):=by
  have hl:=hp.lt
  unfold privityref01_Inverse
  rw [eF (by omega),cF,subU_ok (by omega) (by omega)]
  simp only [bS]
  rw [refPow_ok hp ha (by omega),bS]
  rfl
theorem refNeg_ok {p a:Nat} (hp:Sup p) (ha:a < p):privityref01_Neg p a=some ((p - a) % p):=by
  have hl:=hp.lt
  unfold privityref01_Neg
  rw [subU_ok (by omega) (by omega),bS,remU_ok' hp.pos,bS]
theorem refTrim_ok {f:List Nat} (h:f.length≤1000):∃ t:List Nat,privityref04_Trim f=some t∧t.length≤f.length∧(∀ i,t.getD i 0=f.getD i 0):=by
  unfold privityref04_Trim
  obtain ⟨r,e,k,hr,hk,hz⟩:=lpO_big (step:=fun (st:Int)=>privityref04_Trim_L0 f st) (fun st=>∃ k:Nat,st=k∧k≤f.length∧∀ i,k≤i→f.getD i 0=0)
    (fun r=>∃ k:Nat,r=(k:Int)∧k≤f.length∧∀ i,k≤i→f.getD i 0=0) (fun st=>st.toNat) (fun st ⟨k,h1,h2,h3⟩=>by
      subst h1
      unfold privityref04_Trim_L0
      by_cases g:k=0
      · subst g
        rw [dF (by omega),cF]
        exact ⟨_,rfl,0,rfl,h2,h3⟩
      · have e1:((k:Int) - 1).toNat=k - 1:=by omega
        rw [dT (by omega),cT,subI_some (by omega) (by omega),bS,idx_getD 0 (by omega) (by omega),bS,e1]
        by_cases c:f.getD (k - 1) 0=0
        · rw [eT (by omega),cT]
          refine ⟨_,rfl,⟨k - 1,by omega,by omega,fun i hi=>?_⟩,by omega⟩
          by_cases c2:i=k - 1
          · rw [c2];exact c
          · exact h3 i (by omega)
        · rw [eF (by omega),cF]
          exact ⟨_,rfl,k,rfl,h2,h3⟩)
    (s:=((f.length:Nat):Int)) ⟨f.length,rfl,Nat.le_refl _,fun i hi=>getD_ge hi⟩ (by omega)
  subst hr
  rw [e,bS,cutO_some (by omega) (by omega) (by omega),bS]
  have e1:List.take (((k:Int)).toNat - (0:Int).toNat) (List.drop ((0:Int).toNat) f)=f.take k:=by simp
  rw [e1,appO_some (by simp;omega) (by simp;omega),bS,List.nil_append]
  refine ⟨_,rfl,by simp;omega,fun i=>?_⟩
  by_cases g:i < k
  · rw [List.getD_eq_getElem?_getD,List.getElem?_take,if_pos g,← List.getD_eq_getElem?_getD]
  · rw [getD_ge (by simp;omega),hz i (by omega)]
theorem sameEvent_refl (a:T_api_Event):privityref15_SameEvent a a=some true:=by
  unfold privityref15_SameEvent
  rw [eT rfl,cT,eT rfl,cT,same_ok,bS]
theorem same15_refl {a:List T_api_Event} (ha:a.length≤1000):privityref15_Same a a=some true:=by
  unfold privityref15_Same privityref15_FirstDifference
  obtain ⟨r,e,hr⟩:=lpO_big (step:=fun (st:Int)=>privityref15_FirstDifference_L0 a a st) (fun st=>∃ k:Nat,st=k∧k≤a.length) (fun r=>r=.inr ()) (fun st=>a.length - st.toNat) (fun st ⟨k,h1,h2⟩=>by
    subst h1
    show ∃ q,privityref15_FirstDifference_L0 a a ((k:Nat):Int)=some q∧_
    unfold privityref15_FirstDifference_L0
    by_cases c:k < a.length
    · rw [dT (by omega),cT,bS,cT,idx_getD default (by omega) (by omega),bS,bS,sameEvent_refl,bS,nT,cF,addI_some (by omega) (by omega),bS]
      exact ⟨_,rfl,⟨k+1,by show ((k:Nat):Int)+1=_;omega,by omega⟩,by show a.length - ((k:Int)+1).toNat < a.length - ((k:Nat):Int).toNat;omega⟩
    · rw [dF (by omega),cF,bS,cF]
      exact ⟨_,rfl,rfl⟩) (s:=((0:Nat):Int)) ⟨0,rfl,by omega⟩ (by show a.length - _ < _;omega)
  subst hr
  rw [e,bS,sbR,eT rfl,cT,bS];rfl
theorem rgS_2 {S:Type} {b:Nat→S→Option S} {s s1 s2:S} (h0:b 0 s=some s1) (h1:b 1 s1=some s2):rgS b 2 0 s=some s2:=by simp only [rgS,h0,h1]
section
variable {p:Nat} [NeZero p]
/-- a product with 1 + r x -/
theorem mul2_ok (hp:Sup p) {a:List Nat} {r:Nat} (ha:Lt p a) (h1:1≤a.length) (hl:a.length≤20) (hr:r < p):∃ m,privityref04_Mul p a [1,r]=some m∧Lt p m∧m.length≤a.length+1∧(∀ c,o p (m.getD c 0)=o p (a.getD c 0)+if c=0 then 0 else o p r*o p (a.getD (c - 1) 0))∧∀ y,evl (P p m) y=evl (P p a) y*(1+o p r*y):=by
  have hlt:=hp.lt
  unfold privityref04_Mul
  have e2:(([1,r]:List Nat).length:Int)=((2:Nat):Int):=rfl
  rw [eF (by omega),cF,e2,eF (by omega),bS,cF,addI_some (by omega) (by omega),bS,subI_some (by omega) (by omega),bS]
  have e3:((a.length:Nat):Int)+((2:Nat):Int) - 1=((a.length+1:Nat):Int):=by omega
  rw [e3,mkO_some (by omega) (by omega) (by omega) (by omega),bS,Int.toNat_natCast,Nat.sub_zero]
  obtain ⟨l,e,g1,g2,g3⟩:=rgS_inv (body:=fun k1 (st:(List Nat))=>privityref04_Mul_L0 p a [1,r] k1 st) (fun k l=>l.length=a.length+1∧Lt p l∧∀ c,o p (l.getD c 0)=(if c < k then o p (a.getD c 0) else 0)+if 1≤c∧c≤k then o p r*o p (a.getD (c - 1) 0) else 0) (rem:=a.length) (k:=0) (s:=List.replicate (a.length+1) 0)
    ⟨by simp,fun i hi=>by
      rw [List.getD_eq_getElem?_getD,List.getElem?_replicate]
      split <;> exact hp.pos,fun c=>by
      rw [if_neg (by omega),if_neg (by omega),List.getD_eq_getElem?_getD,List.getElem?_replicate]
      have:o p ((if c < a.length+1 then some 0 else none:Option Nat).getD 0)=0:=by split <;> exact o_zero
      rw [this];grind⟩ (fun k l _ hk ⟨g1,g2,g3⟩=>by
      have hk:k < a.length:=by omega
      have hak:=Lt.get hp.pos ha k
      have hlk:=Lt.get hp.pos g2 k
      have m1:a.getD k 0*1 % p < p:=Nat.mod_lt _ hp.pos
      have m2:a.getD k 0*r % p < p:=Nat.mod_lt _ hp.pos
      have hL1:Lt p (l.set k ((l.getD k 0+a.getD k 0*1 % p) % p)):=Lt_set g2 (Nat.mod_lt _ hp.pos)
      have hlk1:=Lt.get hp.pos hL1 (k+1)
      have s0:privityref04_Mul_L1 p a [1,r] k 0 l=some (l.set k ((l.getD k 0+a.getD k 0*1 % p) % p)):=by
        have e0:((k:Nat):Int)+((0:Nat):Int)=((k:Nat):Int):=by omega
        unfold privityref04_Mul_L1
        rw [addI_some (by omega) (by omega),bS,e0,idx_getD 0 (by omega) (by omega),bS,ix 0 hk,bS,Int.toNat_natCast]
        show (some 1 >>= fun x9=>_)=_
        rw [bS,refMul_ok hp hak (by omega),bS,refAdd_ok hp (by omega),bS,bS]
      have s1:privityref04_Mul_L1 p a [1,r] k 1 (l.set k ((l.getD k 0+a.getD k 0*1 % p) % p))=some ((l.set k ((l.getD k 0+a.getD k 0*1 % p) % p)).set (k+1) (((l.set k ((l.getD k 0+a.getD k 0*1 % p) % p)).getD (k+1) 0+a.getD k 0*r % p) % p)):=by
        have e0:((k:Nat):Int)+((1:Nat):Int)=((k+1:Nat):Int):=by omega
        unfold privityref04_Mul_L1
        rw [addI_some (by omega) (by omega),bS,e0,idx_getD 0 (by omega) (by rw [List.length_set];omega),bS,ix 0 hk,bS,Int.toNat_natCast]
        show (some r >>= fun x9=>_)=_
        rw [bS,refMul_ok hp hak (by omega),bS,refAdd_ok hp (by omega),bS,bS]
      unfold privityref04_Mul_L0
      have e4:([1,r]:List Nat).length - 0=2:=rfl
      rw [e4,rgS_2 s0 s1,bS]
      refine ⟨_,rfl,by rw [List.length_set,List.length_set];exact g1,Lt_set hL1 (Nat.mod_lt _ hp.pos),fun c=>?_⟩
      have hv:(l.set k ((l.getD k 0+a.getD k 0*1 % p) % p)).getD (k+1) 0=l.getD (k+1) 0:=by rw [getD_set (by omega),if_neg (by omega)]
      rw [getD_set (by rw [List.length_set];omega),hv,getD_set (by omega)]
      have g3c:=g3 c
      by_cases c1:k+1=c
      · subst c1
        rw [if_pos rfl,o_mod,o_add,o_mod,o_mul,g3c,if_neg (show ¬ k+1 < k by omega),if_neg (show ¬ (1≤k+1∧k+1≤k) by omega),if_neg (show ¬ k+1 < k+1 by omega),if_pos (show 1≤k+1∧k+1≤k+1 by omega),Nat.add_sub_cancel]
        grind
      · rw [if_neg c1]
        by_cases c2:k=c
        · subst c2
          rw [if_pos rfl,o_mod,o_add,o_mod,o_mul,g3c,if_neg (show ¬ k < k by omega),if_pos (show k < k+1 by omega),o_one]
          by_cases c3:1≤k
          · rw [if_pos (show 1≤k∧k≤k by omega),if_pos (show 1≤k∧k≤k+1 by omega)];grind
          · rw [if_neg (show ¬ (1≤k∧k≤k) by omega),if_neg (show ¬ (1≤k∧k≤k+1) by omega)];grind
        · rw [if_neg c2,g3c]
          by_cases c3:c < k
          · rw [if_pos c3,if_pos (show c < k+1 by omega)]
            by_cases c4:1≤c
            · rw [if_pos (show 1≤c∧c≤k by omega),if_pos (show 1≤c∧c≤k+1 by omega)]
            · rw [if_neg (show ¬ (1≤c∧c≤k) by omega),if_neg (show ¬ (1≤c∧c≤k+1) by omega)]
          · rw [if_neg c3,if_neg (show ¬ (1≤c∧c≤k) by omega),if_neg (show ¬ c < k+1 by omega),if_neg (show ¬ (1≤c∧c≤k+1) by omega)])
  rw [Nat.zero_add] at g3
  obtain ⟨m,em,m1,m2⟩:=refTrim_ok (f:=l) (by omega)
  rw [e,bS,em,bS]
  have hc:∀ c,o p (m.getD c 0)=o p (a.getD c 0)+if c=0 then 0 else o p r*o p (a.getD (c - 1) 0):=fun c=>by
    rw [m2 c,g3 c]
    have z:a.length≤c→o p (a.getD c 0)=0:=fun h=>by rw [getD_ge h];exact o_zero
    by_cases c1:c < a.length
    · rw [if_pos c1]
      by_cases c2:c=0
      · rw [if_pos c2,if_neg (show ¬ (1≤c∧c≤a.length) by omega)]
      · rw [if_neg c2,if_pos (show 1≤c∧c≤a.length by omega)]
    · rw [if_neg c1,z (by omega),if_neg (show ¬ c=0 by omega)]
      by_cases c2:c=a.length
      · rw [if_pos (show 1≤c∧c≤a.length by omega)]
      · rw [if_neg (show ¬ (1≤c∧c≤a.length) by omega),getD_ge (l:=a) (i:=c - 1) (by omega),o_zero];grind
  refine ⟨m,rfl,fun i _=>by rw [m2 i];exact Lt.get hp.pos g2 i,by omega,hc,fun y=>?_⟩
  rw [evl_P (n:=a.length+1) (by omega)]
  have e5:sm (a.length+1) (fun j=>o p (m.getD j 0)*y ^ j)=sm (a.length+1) (fun j=>o p (a.getD j 0)*y ^ j)+sm (a.length+1) (fun j=>(if j=0 then 0 else o p r*o p (a.getD (j - 1) 0))*y ^ j):=by
    rw [← sm_add]
    exact sm_congr fun j _=>by rw [hc j];grind
  have e6:sm (a.length+1) (fun j=>(if j=0 then 0 else o p r*o p (a.getD (j - 1) 0))*y ^ j)=o p r*y*evl (P p a) y:=by
    rw [sm_shift,if_pos rfl,evl_P (f:=a) (n:=a.length) (Nat.le_refl _),← sm_mul]
    have:sm a.length (fun j=>(if j+1=0 then 0 else o p r*o p (a.getD (j+1 - 1) 0))*y ^ (j+1))=sm a.length (fun j=>o p r*y*(o p (a.getD j 0)*y ^ j)):=sm_congr fun j _=>by
      rw [if_neg (by omega),Nat.add_sub_cancel];grind
    rw [this];grind
  rw [e5,e6,← evl_P (f:=a) (n:=a.length+1) (by omega)];grind
end
theorem mono_all {l:List Int} (h:∀ i,0 < i→i < l.length→l.getD (i - 1) 0 < l.getD i 0):∀ j i,i < j→j < l.length→l.getD i 0 < l.getD j 0
  | 0,i,h1,_=>by omega
  | j+1,i,h1,h2=>by
    have h3:=h (j+1) (by omega) h2
    rw [Nat.add_sub_cancel] at h3
    by_cases g:i=j
    · subst g;exact h3
    · have:=mono_all h j i (by omega) (by omega)
      omega
theorem cor_nodup {w:T_api_Scenario} {n t:Nat} (v:Va w n t):w.Corrupt.Nodup:=by
  rw [List.Nodup,List.pairwise_iff_getElem]
  intro i j hi hj hij
  have:=mono_all v.ord j i hij hj
  rw [List.getD_eq_getElem?_getD,List.getD_eq_getElem?_getD,List.getElem?_eq_getElem hi,List.getElem?_eq_getElem hj] at this
  have this:w.Corrupt[i] < w.Corrupt[j]:=this
  omega
theorem cor_cnt {w:T_api_Scenario} {n t:Nat} (v:Va w n t):cnt (fun i=>decide (((i+1:Nat):Int) ∈ w.Corrupt)) n=w.Corrupt.length:=by
  have h1:=sub_len (l1:=((List.range n).filter fun i=>decide (((i+1:Nat):Int) ∈ w.Corrupt)).map fun i=>((i:Nat):Int)+1) (l2:=w.Corrupt) (by
    rw [List.Nodup,List.pairwise_map]
    exact List.Pairwise.imp (fun {a b} h=>by omega) (List.Pairwise.sublist List.filter_sublist List.nodup_range)) (fun x hx=>by
    obtain ⟨i,hi,rfl⟩:=List.mem_map.1 hx
    exact of_decide_eq_true (List.mem_filter.1 hi).2)
  have h2:=sub_len (l1:=w.Corrupt) (l2:=((List.range n).filter fun i=>decide (((i+1:Nat):Int) ∈ w.Corrupt)).map fun i=>((i:Nat):Int)+1) (cor_nodup v) (fun x hx=>by
    have:=v.cr x hx
    have e:(((x.toNat - 1:Nat):Nat):Int)+1=x:=by omega
    refine List.mem_map.2 ⟨x.toNat - 1,List.mem_filter.2 ⟨List.mem_range.2 (by omega),decide_eq_true ?_⟩,e⟩
    have e:((x.toNat - 1+1:Nat):Int)=x:=by omega
    rw [e];exact hx)
  rw [List.length_map] at h1 h2
  unfold cnt;omega
theorem ext_ok {w:T_api_Scenario} {n t:Nat} (v:Va w n t):∃ l,privityref12_ExtendCoalition w.S w.Corrupt=some l∧l.length=t∧(∀ q,q < l.length→∃ i,i < n∧l.getD q 0=((i+1:Nat):Int))∧∀ i,i < n→Cr w i→∃ q,q < l.length∧l.getD q 0=((i+1:Nat):Int):=by
  have h13:=v.n13
  have h3:=v.t3
  have hcl:=v.cl
  have hcn:=cor_cnt v
  have hmx:max 1 (w.S.N+1).toNat=n+1:=by rw [v.N];omega
  unfold privityref12_ExtendCoalition
  rw [v.T,subI_some (by omega) (by omega),bS,hmx,ckN_some (by omega),bS,Nat.add_sub_cancel]
  obtain ⟨⟨x,l⟩,e,j,hj,g1,g2,g3,g4⟩:=rgS_inv (body:=fun k1 (st:Int × (List Int))=>privityref12_ExtendCoalition_L0 w.Corrupt k1 st.1 st.2) (rem:=n) (k:=1) (s:=(((t:Nat):Int) - ((w.Corrupt.length:Nat):Int),([]:List Int)))
    (fun k st=>∃ j,k=j+1∧st.1=(((t - w.Corrupt.length) - min (t - w.Corrupt.length) (j - cnt (fun i=>decide (((i+1:Nat):Int) ∈ w.Corrupt)) j):Nat):Int)∧st.2.length=cnt (fun i=>decide (((i+1:Nat):Int) ∈ w.Corrupt)) j+min (t - w.Corrupt.length) (j - cnt (fun i=>decide (((i+1:Nat):Int) ∈ w.Corrupt)) j)∧(∀ q,q < st.2.length→∃ i,i < n∧st.2.getD q 0=((i+1:Nat):Int))∧∀ i,i < j→Cr w i→∃ q,q < st.2.length∧st.2.getD q 0=((i+1:Nat):Int))
    ⟨0,rfl,by simp only [cnt];simp;omega,by simp [cnt],fun q hq=>by simp at hq,fun i hi=>by omega⟩ (fun k st hk1 hk ⟨j,hj,g1,g2,g3,g4⟩=>by
      obtain ⟨x,l⟩:=st
      simp only at g1 g2 g3 g4
      subst hj
      have hc:=cnt_le (f:=fun i=>decide (((i+1:Nat):Int) ∈ w.Corrupt)) (a:=j)
      have hs:=cnt_succ (f:=fun i=>decide (((i+1:Nat):Int) ∈ w.Corrupt)) (a:=j)
      have hll:l.length≤100:=by omega
      have happ:∀ (q:Nat),q < (l++[((j+1:Nat):Int)]).length→∃ i,i < n∧(l++[((j+1:Nat):Int)]).getD q 0=((i+1:Nat):Int):=fun q hq=>by
        by_cases c:q < l.length
        · rw [getD_app_l c];exact g3 q c
        · have:q=l.length:=by simp at hq;omega
          rw [getD_app_e this];exact ⟨j,by omega,rfl⟩
      have happ2:∀ i,i < j+1→Cr w i→∃ q,q < (l++[((j+1:Nat):Int)]).length∧(l++[((j+1:Nat):Int)]).getD q 0=((i+1:Nat):Int):=fun i hi hci=>by
        by_cases c:i=j
        · subst c;exact ⟨l.length,by simp,getD_app_e rfl⟩
        · obtain ⟨q,q1,q2⟩:=g4 i (by omega) hci
          exact ⟨q,by simp;omega,by rw [getD_app_l q1];exact q2⟩
      unfold privityref12_ExtendCoalition_L0
      simp only
      rw [in19_ok,bS]
      by_cases g:((j+1:Nat):Int) ∈ w.Corrupt
      · rw [decide_eq_true g,if_pos rfl] at hs
        rw [dT g,cT,appO_some (by simp only [List.length_cons,List.length_nil];omega) (by simp only [List.length_cons,List.length_nil];omega),bS]
        exact ⟨_,rfl,j+1,rfl,by rw [g1,hs];congr 3;omega,by rw [List.length_append,g2,hs];simp only [List.length_cons,List.length_nil];omega,happ,happ2⟩
      · rw [decide_eq_false g] at hs
        simp only [Bool.false_eq_true,if_false,Nat.add_zero] at hs
        have hcr:¬ Cr w j:=fun h=>g (by unfold Cr at h;exact h)
        rw [dF g,cF]
        by_cases gx:0 < x
        · rw [dT gx,cT,appO_some (by simp only [List.length_cons,List.length_nil];omega) (by simp only [List.length_cons,List.length_nil];omega),bS,subI_some (by omega) (by omega),bS]
          exact ⟨_,rfl,j+1,rfl,by show x - 1=_;rw [hs];omega,by rw [List.length_append,g2,hs];simp only [List.length_cons,List.length_nil];omega,happ,happ2⟩
        · rw [dF gx,cF]
          refine ⟨_,rfl,j+1,rfl,by show x=_;rw [hs];omega,by show l.length=_;rw [g2,hs];omega,g3,fun i hi hci=>?_⟩
          by_cases c:i=j
          · subst c;exact absurd hci hcr
          · exact g4 i (by omega) hci)
  have:j=n:=by omega
  subst this
  simp only at g2 g3 g4
  rw [e,bS]
  exact ⟨l,rfl,by rw [g2,hcn];omega,g3,g4⟩
/-- the vanishing polynomial -/
theorem van_ok {w:T_api_Scenario} [NeZero w.S.P] {n t:Nat} (v:Va w n t):∃ z,privityref12_VanishingPolynomial w.S w.Corrupt=some z∧z.length=t+1∧Lt w.S.P z∧z.getD 0 0=1∧∀ c,c < n→Cr w c→evl (P w.S.P z) (o w.S.P (c+1))=0:=by
  have hp:=v.sup
  have hlt:=hp.lt
  have h13:=v.n13
  have h3:=v.t3
  obtain ⟨l,el,l1,l2,l3⟩:=ext_ok v
  unfold privityref12_VanishingPolynomial
  rw [el,bS,Nat.sub_zero]
  obtain ⟨z,e,g1,g2,g3,g4,g5⟩:=rgS_inv (body:=fun k1 (st:(List Nat))=>privityref12_VanishingPolynomial_L0 w.S l k1 st) (fun k z=>z.length=k+1∧Lt w.S.P z∧z.getD 0 0=1∧z.getD k 0≠0∧∀ q,q < k→∀ i,l.getD q 0=((i+1:Nat):Int)→evl (P w.S.P z) (o w.S.P (i+1))=0) (rem:=l.length) (k:=0) (s:=([1]:List Nat))
    ⟨rfl,fun i hi=>by
      have:i=0:=by simpa using hi
      subst this;show 1 < w.S.P;omega,rfl,by decide,fun q hq=>by omega⟩ (fun k z _ hk ⟨g1,g2,g3,g4,g5⟩=>by
      have hk:k < l.length:=by omega
      obtain ⟨i,hi,ei⟩:=l2 k hk
      have hu:toU ((i+1:Nat):Int)=i+1:=by unfold toU;omega
      have hx:i+1 < w.S.P:=by omega
      have hiv:pow w.S.P (i+1) (w.S.P - 2) < w.S.P:=pow_lt hp
      have hinv:=hp.oinv (a:=i+1) (by rw [Nat.mod_eq_of_lt hx];omega)
      obtain ⟨m,em,m1,m2,m3,m4⟩:=mul2_ok hp g2 (by omega) (by omega) (r:=(w.S.P - pow w.S.P (i+1) (w.S.P - 2)) % w.S.P) (Nat.mod_lt _ hp.pos)
      rw [o_neg' hiv] at m3 m4
      have hmk:m.getD (k+1) 0≠0:=fun h=>by
        have e1:=m3 (k+1)
        rw [h,o_zero,getD_ge (l:=z) (by omega),o_zero,if_neg (by omega),Nat.add_sub_cancel] at e1
        have e2:o w.S.P (pow w.S.P (i+1) (w.S.P - 2))*o w.S.P (z.getD k 0)=0:=by grind
        rcases hp.nz _ _ e2 with e3 | e3
        · rw [e3] at hinv
          exact hp.one (by rw [← hinv];grind)
        · rw [o_eq0,Nat.mod_eq_of_lt (Lt.get hp.pos g2 k)] at e3
          exact g4 e3
      unfold privityref12_VanishingPolynomial_L0
      rw [ix 0 hk,bS,ei,hu,bS,refInv_ok hp hx (by omega),bS]
      simp only
      rw [refNeg_ok hp hiv,bS,em,bS]
      refine ⟨m,rfl,?_,m1,?_,hmk,fun q hq i' ei'=>?_⟩
      · have:¬ m.length≤k+1:=fun h=>hmk (getD_ge h)
        omega
      · have e1:=m3 0
        rw [if_pos rfl,g3] at e1
        exact o_inj (p:=w.S.P) (Lt.get hp.pos m1 0) (by omega) (by rw [e1];grind)
      · rw [m4]
        by_cases c:q=k
        · subst c
          have:i'=i:=by rw [ei] at ei';omega
          subst this
          have e1:(1:Fin w.S.P) + -o w.S.P (pow w.S.P (i'+1) (w.S.P - 2))*o w.S.P (i'+1)=0:=by grind
          rw [e1];grind
        · rw [g5 q (by omega) i' ei'];grind)
  rw [Nat.zero_add] at g1 g4 g5
  rw [e,bS]
  refine ⟨z,rfl,by omega,g2,g3,fun c hc hcr=>?_⟩
  obtain ⟨q,q1,q2⟩:=l3 c hc hcr
  exact g5 q q1 c q2
end Pu
