/- Plain laws of chapter 19: the second round, and the flags of a party. -/
import Derived.Test.YtahofpgjianhdaaGreatDoorPj1
set_option linter.unusedVariables false
namespace Pu
open Gw Gl Sp
/-- who sends what it should: the honest ones, and all if nobody deviates -/
def Hn (w:T_api_Scenario) (i:Nat):Prop:=(((i:Nat):Int)+1) ∉ w.Corrupt ∨ w.Deviations=[]
/-- what has been noted is little -/
def VB (n B:Nat) (v:List (List T_api_Event)):Prop:=v.length=n∧∀ j,j < n→(v.getD j []).length≤B
/-- all words noted from the third round on are 0 -/
def Zv (n:Nat) (v:List (List T_api_Event)):Prop:=∀ j,j < n→∀ e ∈ v.getD j [],2≤e.Round→e.Words.length≤100∧∀ k,e.Words.getD k 0=0
theorem Lt_mono {p q:Nat} {l:List Nat} (h:Lt p l) (hpq:p≤q):Lt q l:=fun i hi=>Nat.lt_of_lt_of_le (h i hi) hpq
theorem Lt_map {p n:Nat} {v:Nat→Nat} (h:∀ k,k < n→v k < p):Lt p ((List.range n).map v):=fun i hi=>by
  have hi:i < n:=by simpa using hi
  rw [List.getD_eq_getElem?_getD,List.getElem?_map,List.getElem?_range hi];exact h i hi
theorem map_getD {α:Type} {n i:Nat} {v:Nat→α} {d:α} (h:i < n):((List.range n).map v).getD i d=v i:=by
  rw [List.getD_eq_getElem?_getD,List.getElem?_map,List.getElem?_range h];rfl
/-- a loop that lengthens one row -/
theorem rgS_grow {α:Type} {body:Nat→List (List α)→Option (List (List α))} {n i a r:Nat} (w:Nat→α) {l0:List (List α)} (hi:i < n) (h0:l0.length=n)
    (hb:∀ q l,q < r→l.length=n→(l.getD i []).length=(l0.getD i []).length+q→body (a+q) l=some (l.set i (l.getD i []++[w q]))):rgS body r a l0=some (l0.set i (l0.getD i []++(List.range r).map w)):=by
  obtain ⟨l,e,q,hq,h⟩:=rgS_inv (body:=body) (fun k l=>∃ q,k=a+q∧l=l0.set i (l0.getD i []++(List.range q).map w)) (rem:=r) (k:=a) (s:=l0) ⟨0,rfl,by
      rw [List.range_zero,List.map_nil,List.append_nil,set_getD_self (by omega)]⟩ (fun k l hk1 hk ⟨q,hq,hl⟩=>by
    subst hq
    have hg:l.getD i []=l0.getD i []++(List.range q).map w:=by rw [hl,getD_set (by omega),if_pos rfl]
    refine ⟨_,hb q l (by omega) (by rw [hl,List.length_set];exact h0) (by rw [hg,List.length_append,List.length_map,List.length_range]),q+1,by omega,?_⟩
    rw [hg,hl,List.set_set,List.range_succ,List.map_append,List.append_assoc];rfl)
  have:q=r:=by omega
  subst this
  rw [e,h]
/-- a loop that fills rows one after another -/
theorem rgS_rows {α:Type} {body:Nat→List (List α)→Option (List (List α))} {n:Nat} (v:Nat→List α)
    (hb:∀ i l,i < n→l.length=n→l.getD i []=[]→body i l=some (l.set i (v i))):rgS body n 0 (List.replicate n [])=some ((List.range n).map v):=by
  obtain ⟨l,e,h1,h2,h3⟩:=rgS_inv (body:=body) (fun k l=>l.length=n∧(∀ j,j < k→l.getD j []=v j)∧∀ j,k≤j→j < n→l.getD j []=[]) (rem:=n) (k:=0) (s:=List.replicate n [])
    ⟨by simp,fun j hj=>by omega,fun j _ hj=>by rw [List.getD_eq_getElem?_getD,List.getElem?_replicate,if_pos hj];rfl⟩ (fun k l _ hk ⟨h1,h2,h3⟩=>by
      have hkn:k < n:=by omega
      refine ⟨_,hb k l hkn h1 (h3 k (Nat.le_refl k) hkn),by rw [List.length_set];exact h1,fun j hj=>?_,fun j hj hjn=>?_⟩
      · rw [getD_set (by omega)]
        by_cases g:k=j
        · rw [if_pos g,g]
        · rw [if_neg g];exact h2 j (by omega)
      · rw [getD_set (by omega),if_neg (by omega)];exact h3 j (by omega) hjn)
  rw [Nat.zero_add] at h2
  rw [e]
  congr 1
  refine List.ext_getElem? fun i=>?_
  by_cases g:i < n
  · rw [ix [] (by omega),h2 i g,List.getElem?_map,List.getElem?_range g];rfl
  · rw [List.getElem?_eq_none (by omega),List.getElem?_eq_none (by simp;omega)]
theorem vls_succ {p:Nat} {m:Nat→Nat} {Ri:List (List (List Nat))} {x d:Nat}:(vls p (d+1) m Ri x).length=(vls p d m Ri x).length+m d:=by
  unfold vls
  rw [List.range_succ,List.map_append,List.flatten_append,List.length_append];simp
theorem vls_mono {p:Nat} {m:Nat→Nat} {Ri:List (List (List Nat))} {x d:Nat}:∀ {n:Nat},d≤n→(vls p d m Ri x).length≤(vls p n m Ri x).length
  | 0, h => by have : d = 0 := by omega
               subst this;exact Nat.le_refl _
  | n+1,h=>by
    by_cases g:d=n+1
    · subst g;exact Nat.le_refl _
    · have:=vls_mono (p:=p) (m:=m) (Ri:=Ri) (x:=x) (d:=d) (n:=n) (by omega)
      rw [vls_succ];omega
theorem vls_off {p:Nat} {m:Nat→Nat} {A B:List (List (List Nat))} {x y d:Nat}:(vls p d m A x).length=(vls p d m B y).length:=by
  induction d with
  | zero=>unfold vls;simp
  | succ d ih=>rw [vls_succ,vls_succ,ih]
theorem vls_get {p:Nat} {m:Nat→Nat} {Ri:List (List (List Nat))} {x:Nat}:∀ {n d k:Nat},d < n→k < m d→(vls p n m Ri x).getD ((vls p d m Ri x).length+k) 0=pev p ((Ri.getD d []).getD k []) x
  | 0,d,k,h,_=>by omega
  | n+1,d,k,h,hk=>by
    have e:vls p (n+1) m Ri x=vls p n m Ri x++(List.range (m n)).map fun k=>pev p ((Ri.getD n []).getD k []) x:=by
      unfold vls
      rw [List.range_succ,List.map_append,List.flatten_append];simp
    rw [e]
    by_cases g:d=n
    · subst g
      rw [List.getD_eq_getElem?_getD,List.getElem?_append_right (by omega),Nat.add_sub_cancel_left,← List.getD_eq_getElem?_getD,map_getD hk]
    · have h1:=vls_mono (p:=p) (m:=m) (Ri:=Ri) (x:=x) (show d+1≤n by omega)
      rw [vls_succ] at h1
      rw [getD_app_l (by omega)]
      exact vls_get (by omega) hk
theorem idx_inj {n d j d' j':Nat} (h:d*n+j=d'*n+j') (hj:j < n) (hj':j' < n):d=d'∧j=j':=by
  have h1:j=j':=by
    have:=congrArg (· % n) h
    rw [Nat.add_comm,Nat.add_mul_mod_self_right,Nat.add_comm,Nat.add_mul_mod_self_right,Nat.mod_eq_of_lt hj,Nat.mod_eq_of_lt hj'] at this
    exact this
  subst h1
  have:d*n=d'*n:=by omega
  exact ⟨Nat.eq_of_mul_eq_mul_right (by omega) this,rfl⟩
section
variable {p:Nat} [NeZero p] {n t:Nat} {m:Nat→Nat}
theorem vls_lt (hp:Sup p) {R:List (List (List (List Nat)))} (r:Rr p n t m R) (ht:t≤2) {i x:Nat} (hi:i < n) (hx:x < p):Lt p (vls p n m (R.getD i []) x):=by
  unfold vls
  refine flat_lt fun d hd=>Lt_map fun k hk=>?_
  obtain ⟨w1,w2⟩:=r.w i hi d hd k hk
  exact (pev_ok hp w2 hx (by omega)).2.1
theorem compare_ok {ph:T_vssdeal_phase} (hp:ph.zs.P=p) (s:Sc ph.zn.zw n t) (ht:t≤2) (hz:ph.zs=ph.zn.zw.S) (r:Rr p n t m ph.zd.Rows) {B:Nat} (hv:VB n B ph.zn.zviews) (hB:B≤500) (hr:0≤ph.zn.zround∧ph.zn.zround≤1000) :
    ∃ all inn views,vssdeal_phase_compare ph=some (inn,ph.zn.zround+1,views)∧inn.length=n∧(∀ i,i < n→(inn.getD i []).length=n)∧(∀ i,i < n→∀ j,j < n→Hn ph.zn.zw j→(inn.getD i []).getD j []=vls p n m (ph.zd.Rows.getD j []) (i+1))∧views.length=n∧(∀ j,j < n→views.getD j []=ph.zn.zviews.getD j []++evs ph.zn.zround all j n) ∧
      adversary_ApplyToMessages ph.zn.zw ph.zn.zround ((List.range n).map fun i=>(List.range n).map fun j=>vls p n m (ph.zd.Rows.getD i []) (j+1))=some all∧∀ i,i < n→∀ j,j < n→(inn.getD i []).getD j []=(all.getD j []).getD i []:=by
  have h13:=s.n13
  have hN:ph.zs.N=(n:Int):=by rw [hz];exact s.N
  have hpw:ph.zn.zw.S.P=p:=by rw [← hz];exact hp
  have hsp:Sup p:=by rw [← hpw];exact s.sup
  have hlt:=hsp.lt
  have hm2:∀ d,d < n→m d≤2:=r.m2
  have e1:vssdeal_phase_each_vssdeal_phase_compare_1_al ph (List.replicate n [])=some ((List.range n).map fun i=>(List.range n).map fun j=>vls p n m (ph.zd.Rows.getD i []) (j+1)):=by
    have hmx:max 0 ph.zs.N.toNat=n:=by rw [hN];simp
    unfold vssdeal_phase_each_vssdeal_phase_compare_1_al
    rw [hmx,ckN_some (by omega),bS,Nat.sub_zero,rgS_rows (fun i=>(List.range n).map fun j=>vls p n m (ph.zd.Rows.getD i []) (j+1)) (fun i l hi hl h0=>by
      have hmx:max 1 (ph.zs.N+1).toNat=n+1:=by rw [hN];omega
      unfold vssdeal_phase_each_vssdeal_phase_compare_1_al_L0 vssdeal_phase_compare_1
      rw [hmx,ckN_some (by omega),bS,Nat.add_sub_cancel,rgS_grow (fun j=>vls p n m (ph.zd.Rows.getD i []) (j+1)) hi hl (fun q l' hq hl' hw=>by
        rw [h0] at hw
        simp only [List.length_nil] at hw
        unfold vssdeal_phase_compare_1_L0
        rw [idx_getD [] (by omega) (by omega),bS,Nat.add_comm 1 q,values19_ok hsp h13 ht hp r hi (by omega) (by omega),bS,Int.toNat_natCast,appO_some (by simp only [List.length_cons,List.length_nil];omega) (by simp only [List.length_cons,List.length_nil];omega),bS,bS]),bS,bS,h0,List.nil_append]),bS]
  have hsq:Sq p n 26 ((List.range n).map fun i=>(List.range n).map fun j=>vls p n m (ph.zd.Rows.getD i []) (j+1)):=⟨by simp,fun i hi=>by rw [map_getD hi];simp,fun i hi j hj=>by
    rw [map_getD hi,map_getD hj]
    have:=vls_len (n:=n) (p:=p) (Ri:=ph.zd.Rows.getD i []) (x:=j+1) hm2
    exact ⟨vls_lt hsp r ht hi (by omega),by omega⟩⟩
  obtain ⟨all,inn,views,ea,es,⟨q1,_⟩,q2,i1,i2,v1,v2⟩:=send_ok s (by rw [hpw];exact hsq) (by omega) hv.1 (fun j hj=>Nat.le_trans (hv.2 j hj) hB) hr
  refine ⟨all,inn,views,?_,i1,fun i hi=>(i2 i hi).1,fun i hi j hj hh=>?_,v1,v2,ea,fun i hi j hj=>(i2 i hi).2 j hj⟩
  · unfold vssdeal_phase_compare
    rw [hN,mkO_some (by omega) (by omega) (by omega) (by omega),bS,Int.toNat_natCast,e1,bS,es,bS]
  · rw [(i2 i hi).2 j hj]
    rcases hh with hc | hc
    · rw [q2 j hj hc,map_getD hj,map_getD hi]
    · rw [applyM_none s (by rw [hpw];exact hsq) hc ea,map_getD hj,map_getD hi]
theorem flags_ok (hp:Sup p) {ph:T_vssdeal_phase} {i:Nat} (hn:n≤7) (ht:t≤2) (hN:ph.zs.N=(n:Int)) (hP:ph.zs.P=p) (hq:ph.zq.length=n) (hm:∀ d,d < n→(ph.zq.getD d []).length=m d) (r:Rr p n t m ph.zd.Rows) (hi:i < n) {heard:List (List Nat)} (hh:heard.length=n) :
    ∃ F,vssdeal_phase_flags ph ((i:Nat):Int) heard=some F∧F.length=n*n∧Lt 2 F∧((∀ j,j < n→j≠i→heard.getD j []=vls p n m (ph.zd.Rows.getD i []) (j+1))→∀ k,F.getD k 0=0) ∧
      ∀ j,j < n→∀ d,d < n→(F.getD (d*n+j) 0≠0 ↔ j≠i∧∃ q,q < m d∧(heard.getD j []).getD ((vls p d m (ph.zd.Rows.getD i []) (j+1)).length+q) 0≠pev p (((ph.zd.Rows.getD i []).getD d []).getD q []) (j+1)):=by
  have hlt:=hp.lt
  have hkeep:∀ {l:List Nat} {a b:Nat},a < l.length→l.getD b 0≠0→(l.set a 1).getD b 0≠0:=fun {l a b} ha hb=>by
    rw [getD_set ha];split
    · decide
    · exact hb
  have hmx:max 0 ph.zs.N.toNat=n:=by rw [hN];simp
  have i1:((n:Nat):Int)*((n:Nat):Int)=((n*n:Nat):Int):=by rw [Int.natCast_mul]
  have hnn:n*n≤7*7:=Nat.mul_le_mul hn hn
  unfold vssdeal_phase_flags
  rw [hmx,hN,mulI_some (by rw [i1];omega) (by rw [i1];omega),i1,bS,mkO_some (by omega) (by omega) (by omega) (by omega),bS,ckN_some (by omega),bS,Nat.sub_zero,Int.toNat_natCast]
  generalize hH:(∀ j,j < n→j≠i→heard.getD j []=vls p n m (ph.zd.Rows.getD i []) (j+1))=Hyp
  generalize hVi:(fun (j d q:Nat)=>(heard.getD j []).getD ((vls p d m (ph.zd.Rows.getD i []) (j+1)).length+q) 0≠pev p (((ph.zd.Rows.getD i []).getD d []).getD q []) (j+1))=vi
  obtain ⟨F,e,h1,h2,h3,hv,hw⟩:=rgS_inv (body:=fun k1 (st:(List Nat))=>vssdeal_phase_flags_L0 ph ((i:Nat):Int) heard k1 st) (rem:=n) (k:=0) (s:=List.replicate (n*n) 0)
    (fun k l=>l.length=n*n∧Lt 2 l∧(Hyp→∀ k,l.getD k 0=0)∧(∀ j,j < k→j≠i→(∀ d,d < n→∀ q,q < m d→vi j d q→l.getD (d*n+j) 0≠0))∧(∀ j',j' < n→∀ d',d' < n→l.getD (d'*n+j') 0≠0→j'≠i∧∃ q,q < m d'∧vi j' d' q)) ⟨by simp,fun k hk=>by
      rw [List.length_replicate] at hk
      rw [List.getD_eq_getElem?_getD,List.getElem?_replicate,if_pos hk];decide,fun _ k=>by
      rw [List.getD_eq_getElem?_getD,List.getElem?_replicate];split <;> rfl,fun j hj=>by omega,fun j' _ d' _ h=>absurd (by rw [List.getD_eq_getElem?_getD,List.getElem?_replicate];split <;> rfl) h⟩ (fun k l _ hk ⟨h1,h2,h3,hv,hw⟩=>by
      have hkn:k < n:=by omega
      unfold vssdeal_phase_flags_L0
      by_cases g:k=i
      · rw [zz g,cT];exact ⟨_,rfl,h1,h2,h3,fun j hj hji=>hv j (by omega) hji,hw⟩
      have ek:((k:Nat):Int)+1=((k+1:Nat):Int):=by omega
      have hvl:=vls_len (n:=n) (p:=p) (Ri:=ph.zd.Rows.getD i []) (x:=k+1) r.m2
      obtain ⟨c,ec,c1,c2⟩:=resize_ok (l:=heard.getD k []) (m:=(vls p n m (ph.zd.Rows.getD i []) (k+1)).length) (by omega)
      rw [zzF g,cF,addI_some (by omega) (by omega),bS,ek,values19_ok hp (by omega) ht hP r hi (by omega) (by omega),bS,ix [] (by omega),bS,ec,bS,hq,Nat.sub_zero]
      have hsame:Hyp→∀ a,a < c.length→c.getD a 0=(vls p n m (ph.zd.Rows.getD i []) (k+1)).getD a 0:=fun hy a ha=>by
        rw [← hH] at hy
        rw [c2 a (by omega),hy k hkn g]
      have hcc':∀ d q,q < m d→d < n→c.getD ((vls p d m (ph.zd.Rows.getD i []) (k+1)).length+q) 0=(heard.getD k []).getD ((vls p d m (ph.zd.Rows.getD i []) (k+1)).length+q) 0∧(vls p n m (ph.zd.Rows.getD i []) (k+1)).getD ((vls p d m (ph.zd.Rows.getD i []) (k+1)).length+q) 0=pev p (((ph.zd.Rows.getD i []).getD d []).getD q []) (k+1):=fun d q hq hd=>by
        have h1:=vls_mono (p:=p) (m:=m) (Ri:=ph.zd.Rows.getD i []) (x:=k+1) (show d+1≤n by omega)
        rw [vls_succ] at h1
        exact ⟨c2 _ (by omega),vls_get hd hq⟩
      have hcv:∀ d,d < n→∀ q,q < m d→vi k d q→c.getD ((vls p d m (ph.zd.Rows.getD i []) (k+1)).length+q) 0≠(vls p n m (ph.zd.Rows.getD i []) (k+1)).getD ((vls p d m (ph.zd.Rows.getD i []) (k+1)).length+q) 0:=fun d hd q hq hvi=>by
        have h1:=vls_mono (p:=p) (m:=m) (Ri:=ph.zd.Rows.getD i []) (x:=k+1) (show d+1≤n by omega)
        rw [vls_succ] at h1
        rw [c2 _ (by omega),vls_get hd hq]
        rw [← hVi] at hvi;exact hvi
      generalize hV:vls p n m (ph.zd.Rows.getD i []) (k+1)=V at *
      obtain ⟨⟨l',a'⟩,e',g1,g2,g3,g4,g5,g6,g7⟩:=rgS_inv (body:=fun k2 (st:(List Nat) × Int)=>vssdeal_phase_flags_L1 ph k V c k2 st.1 st.2) (rem:=n) (k:=0) (s:=(l,((0:Nat):Int)))
        (fun d st=>st.1.length=n*n∧Lt 2 st.1∧(Hyp→∀ k,st.1.getD k 0=0)∧st.2=(((vls p d m (ph.zd.Rows.getD i []) (k+1)).length:Nat):Int)∧(∀ j,j < k→j≠i→∀ d,d < n→∀ q,q < m d→vi j d q→st.1.getD (d*n+j) 0≠0)∧(∀ d',d' < d→∀ q,q < m d'→vi k d' q→st.1.getD (d'*n+k) 0≠0)∧(∀ j',j' < n→∀ d',d' < n→st.1.getD (d'*n+j') 0≠0→j'≠i∧∃ q,q < m d'∧vi j' d' q)) ⟨h1,h2,h3,by simp [vls],hv,fun d' hd'=>by omega,hw⟩ (fun d st _ hd ⟨g1,g2,g3,g4,g5,g6,g7⟩=>by
          obtain ⟨l0,a0⟩:=st
          simp only at g1 g2 g3 g4 g5 g6 g7
          subst g4
          have hdn:d < n:=by omega
          have hoff:(vls p (d+1) m (ph.zd.Rows.getD i []) (k+1)).length≤V.length:=by rw [← hV];exact vls_mono hdn
          rw [vls_succ] at hoff
          unfold vssdeal_phase_flags_L1
          simp only
          rw [ix [] (by omega),bS,hm d hdn,Nat.sub_zero]
          obtain ⟨⟨l2,a2⟩,e2,f1,f2,f3,f4,f5,f6,f7,f8⟩:=rgS_inv (body:=fun k3 (st:(List Nat) × Int)=>vssdeal_phase_flags_L2 ph k V c d k3 st.1 st.2) (rem:=m d) (k:=0) (s:=(l0,(((vls p d m (ph.zd.Rows.getD i []) (k+1)).length:Nat):Int)))
            (fun q st=>st.1.length=n*n∧Lt 2 st.1∧(Hyp→∀ k,st.1.getD k 0=0)∧st.2=(((vls p d m (ph.zd.Rows.getD i []) (k+1)).length+q:Nat):Int)∧(∀ j,j < k→j≠i→∀ d,d < n→∀ q,q < m d→vi j d q→st.1.getD (d*n+j) 0≠0)∧(∀ d',d' < d→∀ q,q < m d'→vi k d' q→st.1.getD (d'*n+k) 0≠0)∧(∀ q',q' < q→vi k d q'→st.1.getD (d*n+k) 0≠0)∧(∀ j',j' < n→∀ d',d' < n→st.1.getD (d'*n+j') 0≠0→j'≠i∧∃ q,q < m d'∧vi j' d' q)) ⟨g1,g2,g3,rfl,g5,g6,fun q' hq'=>by omega,g7⟩ (fun q st _ hq2 ⟨f1,f2,f3,f4,f5,f6,f7,f8⟩=>by
              obtain ⟨l1,a1⟩:=st
              simp only at f1 f2 f3 f4 f5 f6 f7 f8
              subst f4
              have hqm:q < m d:=by omega
              have hcq:=hcv d hdn q hqm
              have hcc:=fun q hq (hd:d < n)=>hcc' d q hq hd
              generalize hA:(vls p d m (ph.zd.Rows.getD i []) (k+1)).length+q=A at *
              have hAV:A < V.length:=by omega
              unfold vssdeal_phase_flags_L2
              simp only
              rw [idx_getD 0 (by omega) (by omega),bS,idx_getD 0 (by omega) (by omega),bS,Int.toNat_natCast]
              by_cases gq:c.getD A 0=V.getD A 0
              · rw [qF (by rw [gq]),cF,addI_some (by omega) (by omega),bS]
                refine ⟨_,rfl,f1,f2,f3,by show _=_;omega,f5,f6,fun q' hq' hvi=>?_,f8⟩
                by_cases gg:q'=q
                · subst gg;exact absurd gq (hcq hvi)
                · exact f7 q' (by omega) hvi
              · have i2:((d:Nat):Int)*((n:Nat):Int)=((d*n:Nat):Int):=by rw [Int.natCast_mul]
                have hdd:(d+1)*n≤n*n:=Nat.mul_le_mul_right _ hdn
                rw [Nat.add_mul,Nat.one_mul] at hdd
                have i3:((d*n:Nat):Int)+((k:Nat):Int)=((d*n+k:Nat):Int):=by omega
                rw [qT (by omega),cT,hN,mulI_some (by rw [i2];omega) (by rw [i2];omega),bS,i2,addI_some (by omega) (by omega),bS,i3,idx_getD 0 (by omega) (by omega),bS,bS,addI_some (by omega) (by omega),bS]
                refine ⟨_,rfl,by show (l1.set _ _).length=_;rw [List.length_set];exact f1,Lt_set f2 (by decide),fun hy=>absurd (hsame hy A (by omega)) gq,by show _=_;omega,fun j hj hji d' hd' q' hq' hvi=>hkeep (by omega) (f5 j hj hji d' hd' q' hq' hvi),fun d' hd' q' hq' hvi=>hkeep (by omega) (f6 d' hd' q' hq' hvi),fun q' hq' hvi=>?_,fun j' hj' d' hd' hne=>?_⟩
                · show (l1.set _ 1).getD _ 0≠0
                  rw [Int.toNat_natCast,getD_set (by omega),if_pos rfl];decide
                · have hne:(l1.set ((d*n+k:Nat):Int).toNat 1).getD (d'*n+j') 0≠0:=hne
                  rw [Int.toNat_natCast,getD_set (by omega)] at hne
                  by_cases gg:d*n+k=d'*n+j'
                  · obtain ⟨rfl,rfl⟩:=idx_inj gg hkn hj'
                    refine ⟨g,q,hqm,?_⟩
                    rw [← hVi]
                    intro hh
                    have:=hcc q hqm hdn
                    exact gq (by rw [← hA,this.1,this.2];exact hh)
                  · rw [if_neg gg] at hne;exact f8 j' hj' d' hd' hne)
          rw [Nat.zero_add] at f4
          rw [Nat.zero_add] at f7
          simp only at f1 f2 f3 f4 f5 f6 f7 f8
          rw [e2,bS]
          refine ⟨_,rfl,f1,f2,f3,?_,f5,fun d' hd' q' hq' hvi=>?_,f8⟩
          · show a2=_
            rw [vls_succ];exact f4
          · by_cases gg:d'=d
            · subst gg;exact f7 q' hq' hvi
            · exact f6 d' (by omega) q' hq' hvi)
      rw [Nat.zero_add] at g6
      rw [e',bS]
      refine ⟨_,rfl,g1,g2,g3,fun j hj hji d hd q hq hvi=>?_,g7⟩
      by_cases gg:j=k
      · subst gg;exact g6 d hd q hq hvi
      · exact g5 j (by omega) hji d hd q hq hvi)
  rw [Nat.zero_add] at hv
  refine ⟨F,by rw [e,bS],h1,h2,fun hy=>h3 hy,fun j hj d hd=>⟨fun hne=>?_,fun ⟨hji,q,hq,hvi⟩=>hv j hj hji d hd q hq ?_⟩⟩
  · obtain ⟨c1,q,c2,c3⟩:=hw j hj d hd hne
    rw [← hVi] at c3
    exact ⟨c1,q,c2,c3⟩
  · rw [← hVi];exact hvi
end
end Pu
