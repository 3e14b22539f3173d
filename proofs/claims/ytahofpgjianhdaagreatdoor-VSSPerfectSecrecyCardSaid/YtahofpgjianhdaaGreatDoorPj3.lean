/- Plain laws of chapter 19: the third round, and the whole first half. -/
import Derived.Test.YtahofpgjianhdaaGreatDoorPj2
set_option linter.unusedVariables false
namespace Pu
open Gw Gl Sp
theorem zv_send {n:Nat} {v v':List (List T_api_Event)} {all:List (List (List Nat))} {round:Int} (hr:round < 2) (h:∀ j,j < n→v'.getD j []=v.getD j []++evs round all j n) (hz:Zv n v):Zv n v':=fun j hj e he h2=>by
  rw [h j hj] at he
  rcases List.mem_append.1 he with he | he
  · exact hz j hj e he h2
  · unfold evs at he
    obtain ⟨i,_,rfl⟩:=List.mem_map.1 he
    exact absurd h2 (by show ¬ 2≤round;omega)
theorem vb_send {n B:Nat} {v v':List (List T_api_Event)} {all:List (List (List Nat))} {round:Int} (hl:v'.length=n) (h:∀ j,j < n→v'.getD j []=v.getD j []++evs round all j n) (hb:VB n B v):VB n (B+n) v':=⟨hl,fun j hj=>by
  rw [h j hj,List.length_append]
  have:=hb.2 j hj
  have:=evs_len (round:=round) (all:=all) (j:=j) (k:=n)
  omega⟩
/-- a broadcast -/
theorem bc_ok {net:T_network_Net} {n t L B:Nat} (s:Sc net.zw n t) {out:List (List Nat)} (ho:Bl net.zw.S.P n L out) (hL:L≤100) (hv:VB n B net.zviews) (hB:B≤500) (hr:0≤net.zround∧net.zround≤1000) :
    ∃ all views,network_Net_Broadcast net out=some (all,net.zround+1,views)∧Bl net.zw.S.P n L all∧(∀ i,i < n→Hn net.zw i→all.getD i []=out.getD i [])∧VB n (B+n) views ∧
      (net.zw.Deviations=[]→(∀ i,i < n→∀ k,(out.getD i []).getD k 0=0)→Zv n net.zviews→Zv n views) ∧
      adversary_ApplyToBroadcasts net.zw net.zround out=some all∧∀ j,j < n→views.getD j []=net.zviews.getD j []++evB net.zround all j n:=by
  obtain ⟨all,views,e,ea,b1,b2,b3,b4,b5⟩:=bcast_ok s ho hL hv.1 (fun j hj=>Nat.le_trans (hv.2 j hj) hB) hr
  refine ⟨all,views,e,b1,fun i hi hh=>?_,⟨b4,fun j hj=>?_⟩,fun hd hz hv2 j hj e he h2=>?_,ea,b5⟩
  · rcases hh with hc | hc
    · exact b2 i hi hc
    · rw [b3 hc]
  · rw [b5 j hj,List.length_append]
    have:=hv.2 j hj
    have:=evB_len (round:=net.zround) (all:=all) (j:=j) (k:=n)
    omega
  · rw [b5 j hj] at he
    rcases List.mem_append.1 he with he | he
    · exact hv2 j hj e he h2
    · unfold evB at he
      obtain ⟨i,hi,rfl⟩:=List.mem_map.1 he
      have hin:i < n:=by simpa using (List.mem_filter.1 hi).1
      show (all.getD i []).length≤100∧∀ k,(all.getD i []).getD k 0=0
      exact ⟨Nat.le_trans (b1.w i hin).2 hL,fun k=>by rw [b3 hd];exact hz i hin k⟩
theorem got_in {l:List Nat} {w m k c:Nat} (hk:k < m) (hc:c < w):((got l w m).getD k []).getD c 0=l.getD (k*w+c) 0:=by
  rw [got_get hk,map_getD hc]
theorem complain2_ok {ph:T_vssdeal_phase} {n i:Nat} (hN:ph.zs.N=(n:Int)) (hn:n≤7) {all:List (List Nat)} (hl:all.length=n) (hi:i < n) (h0:ph.zd.Flags.length=n) (h4:ph.zd.Flags.getD i []=[]) :
    vssdeal_phase_complain_2 ((i:Nat):Int) all ph=some ⟨ph.zd.S,ph.zd.Rows,ph.zd.Flags.set i (got (all.getD i []) n n)⟩:=by
  have hmx:max 0 ph.zs.N.toNat=n:=by rw [hN];simp
  have i1:((n:Nat):Int)*((n:Nat):Int)=((n*n:Nat):Int):=by rw [Int.natCast_mul]
  have hnn:n*n≤7*7:=Nat.mul_le_mul hn hn
  obtain ⟨r,er,r1,r2⟩:=resize_ok (l:=all.getD i []) (m:=n*n) (by omega)
  unfold vssdeal_phase_complain_2
  rw [hmx,hN,idx_getD [] (by omega) (by omega),bS,Int.toNat_natCast,mulI_some (by rw [i1];omega) (by rw [i1];omega),i1,bS,er,bS,ckN_some (by omega),bS,Nat.sub_zero,
    rgS_grow (fun k=>(List.range n).map fun c=>(all.getD i []).getD (k*n+c) 0) hi h0 (fun q l hq hl' hw=>by
      rw [h4] at hw
      simp only [List.length_nil] at hw
      obtain ⟨c1,c2,c3⟩:=cut_ok (l:=all.getD i []) (k:=q) (w:=n) (m:=n) r1 r2 hq (by omega) (by omega) (by omega)
      unfold vssdeal_phase_complain_2_L0
      rw [Nat.zero_add,hN,idx_getD [] (by omega) (by omega),bS,Int.toNat_natCast,c1,bS,addI_some (by omega) (by omega),bS,c2,bS,c3,bS,appO_some (by simp only [List.length_cons,List.length_nil];omega) (by simp only [List.length_cons,List.length_nil];omega),bS,bS]),bS,h4,List.nil_append]
  rfl
section
variable {p:Nat} [NeZero p] {n t:Nat} {m:Nat→Nat}
theorem complain_ok {ph:T_vssdeal_phase} (hp:ph.zs.P=p) (s:Sc ph.zn.zw n t) (hn:n≤7) (ht:t≤2) (hz:ph.zs=ph.zn.zw.S) (hq:ph.zq.length=n) (hm:∀ d,d < n→(ph.zq.getD d []).length=m d) (r:Rr p n t m ph.zd.Rows) (hF:ph.zd.Flags=List.replicate n []) {heard:List (List (List Nat))} (hl:heard.length=n) (hh:∀ i,i < n→(heard.getD i []).length=n) {B:Nat} (hv:VB n B ph.zn.zviews) (hB:B≤500) (hr:0≤ph.zn.zround∧ph.zn.zround≤1000) :
    ∃ (all:List (List Nat)) (views:List (List T_api_Event)),vssdeal_phase_complain ph heard=some (ph.zn.zround+1,views,⟨ph.zd.S,ph.zd.Rows,(List.range n).map fun i=>got (all.getD i []) n n⟩)∧VB n (B+n) views ∧
      (ph.zn.zw.Deviations=[]→(∀ i,i < n→∀ j,j < n→j≠i→(heard.getD i []).getD j []=vls p n m (ph.zd.Rows.getD i []) (j+1))→(∀ i,i < n→∀ k,(all.getD i []).getD k 0=0)∧(Zv n ph.zn.zviews→Zv n views)) ∧
      ∃ fl:Nat→List Nat,adversary_ApplyToBroadcasts ph.zn.zw ph.zn.zround ((List.range n).map fl)=some all∧(∀ j,j < n→views.getD j []=ph.zn.zviews.getD j []++evB ph.zn.zround all j n)∧(∀ i,i < n→(fl i).length=n*n∧Lt 2 (fl i)∧∀ j,j < n→∀ d,d < n→((fl i).getD (d*n+j) 0≠0 ↔ j≠i∧∃ q,q < m d∧((heard.getD i []).getD j []).getD ((vls p d m (ph.zd.Rows.getD i []) (j+1)).length+q) 0≠pev p (((ph.zd.Rows.getD i []).getD d []).getD q []) (j+1)))∧∀ i,i < n→Hn ph.zn.zw i→all.getD i []=fl i:=by
  have hN:ph.zs.N=(n:Int):=by rw [hz];exact s.N
  have hpw:ph.zn.zw.S.P=p:=by rw [← hz];exact hp
  have hsp:Sup p:=by rw [← hpw];exact s.sup
  have hlt:=hsp.lt
  have hnn:n*n≤7*7:=Nat.mul_le_mul hn hn
  have hmx:max 0 ph.zs.N.toNat=n:=by rw [hN];simp
  have hfl:∀ i,i < n→∃ F,vssdeal_phase_flags ph ((i:Nat):Int) (heard.getD i [])=some F∧F.length=n*n∧Lt 2 F∧((∀ j,j < n→j≠i→(heard.getD i []).getD j []=vls p n m (ph.zd.Rows.getD i []) (j+1))→∀ k,F.getD k 0=0)∧∀ j,j < n→∀ d,d < n→(F.getD (d*n+j) 0≠0 ↔ j≠i∧∃ q,q < m d∧((heard.getD i []).getD j []).getD ((vls p d m (ph.zd.Rows.getD i []) (j+1)).length+q) 0≠pev p (((ph.zd.Rows.getD i []).getD d []).getD q []) (j+1)) :=
    fun i hi=>flags_ok hsp hn ht hN hp hq hm r hi (hh i hi)
  generalize hfd:(fun i:Nat=>(vssdeal_phase_flags ph ((i:Nat):Int) (heard.getD i [])).getD [])=fl
  have hfl2:∀ i,i < n→vssdeal_phase_flags ph ((i:Nat):Int) (heard.getD i [])=some (fl i)∧(fl i).length=n*n∧Lt 2 (fl i)∧((∀ j,j < n→j≠i→(heard.getD i []).getD j []=vls p n m (ph.zd.Rows.getD i []) (j+1))→∀ k,(fl i).getD k 0=0)∧∀ j,j < n→∀ d,d < n→((fl i).getD (d*n+j) 0≠0 ↔ j≠i∧∃ q,q < m d∧((heard.getD i []).getD j []).getD ((vls p d m (ph.zd.Rows.getD i []) (j+1)).length+q) 0≠pev p (((ph.zd.Rows.getD i []).getD d []).getD q []) (j+1)):=fun i hi=>by
    obtain ⟨F,e,h⟩:=hfl i hi
    have:fl i=F:=by rw [← hfd];show (vssdeal_phase_flags ph ((i:Nat):Int) (heard.getD i [])).getD []=F;rw [e];rfl
    rw [this];exact ⟨e,h⟩
  have e1:vssdeal_phase_each_vssdeal_phase_complain_1_al ph heard (List.replicate n [])=some ((List.range n).map fl):=by
    unfold vssdeal_phase_each_vssdeal_phase_complain_1_al
    rw [hmx,ckN_some (by omega),bS,Nat.sub_zero,rgS_rows fl (fun i l hi hl' _=>by
      unfold vssdeal_phase_each_vssdeal_phase_complain_1_al_L0 vssdeal_phase_complain_1
      rw [idx_getD [] (by omega) (by omega),bS,Int.toNat_natCast,(hfl2 i hi).1,bS,idx_getD [] (by omega) (by omega),bS,bS,bS]),bS]
  have hbl:Bl ph.zn.zw.S.P n 49 ((List.range n).map fl):=⟨by simp,fun i hi=>by
    rw [map_getD hi,hpw]
    obtain ⟨_,f1,f2,_,_⟩:=hfl2 i hi
    exact ⟨Lt_mono f2 (by omega),by omega⟩⟩
  obtain ⟨all,views,e2,b1,b2,b3,b4,b5,b6⟩:=bc_ok s hbl (by omega) hv hB hr
  refine ⟨all,views,?_,b3,fun hd hy=>?_,fl,b5,b6,fun i hi=>⟨(hfl2 i hi).2.1,(hfl2 i hi).2.2.1,(hfl2 i hi).2.2.2.2⟩,fun i hi hh=>by rw [b2 i hi hh,map_getD hi]⟩
  · have e3:vssdeal_phase_each_vssdeal_phase_complain_2_al (⟨⟨ph.zn.zw,ph.zn.zround+1,views,ph.zn.ztapes⟩,ph.zs,ph.zq,ph.zd⟩:T_vssdeal_phase) all=some ⟨ph.zd.S,ph.zd.Rows,(List.range n).map fun i=>got (all.getD i []) n n⟩:=by
      unfold vssdeal_phase_each_vssdeal_phase_complain_2_al
      simp only
      rw [hmx,ckN_some (by omega),bS,Nat.sub_zero]
      obtain ⟨⟨S,R,F⟩,e,a1,a2,a3,a4,a5⟩:=rgS_inv (body:=fun k1 (st:(List (List (List (List Nat)))) × (List (List (List (List Nat)))) × (List (List (List Nat))))=>vssdeal_phase_each_vssdeal_phase_complain_2_al_L0 (⟨⟨ph.zn.zw,ph.zn.zround+1,views,ph.zn.ztapes⟩,ph.zs,ph.zq,ph.zd⟩:T_vssdeal_phase) all k1 st.1 st.2.1 st.2.2) (rem:=n) (k:=0) (s:=(ph.zd.S,ph.zd.Rows,ph.zd.Flags))
        (fun k st=>st.1=ph.zd.S∧st.2.1=ph.zd.Rows∧st.2.2.length=n∧(∀ j,j < k→st.2.2.getD j []=got (all.getD j []) n n)∧∀ j,k≤j→j < n→st.2.2.getD j []=[])
        ⟨rfl,rfl,by show ph.zd.Flags.length=n;rw [hF];simp,fun j hj=>by omega,fun j _ hj=>by show ph.zd.Flags.getD j []=[];rw [hF,List.getD_eq_getElem?_getD,List.getElem?_replicate,if_pos hj];rfl⟩ (fun k st _ hk ⟨a1,a2,a3,a4,a5⟩=>by
          obtain ⟨S,R,F⟩:=st
          simp only at a1 a2 a3 a4 a5
          subst a1;subst a2
          have hkn:k < n:=by omega
          have:=complain2_ok (ph:=⟨⟨ph.zn.zw,ph.zn.zround+1,views,ph.zn.ztapes⟩,ph.zs,ph.zq,⟨ph.zd.S,ph.zd.Rows,F⟩⟩) hN hn b1.len hkn a3 (a5 k (Nat.le_refl k) hkn)
          unfold vssdeal_phase_each_vssdeal_phase_complain_2_al_L0
          simp only
          rw [this,bS]
          refine ⟨_,rfl,rfl,rfl,by show (F.set _ _).length=n;rw [List.length_set];exact a3,fun j hj=>?_,fun j hj hjn=>?_⟩
          · show (F.set k _).getD j []=_
            rw [getD_set (by omega)]
            by_cases g:k=j
            · rw [if_pos g,g]
            · rw [if_neg g];exact a4 j (by omega)
          · show (F.set k _).getD j []=_
            rw [getD_set (by omega),if_neg (by omega)];exact a5 j (by omega) hjn)
      rw [Nat.zero_add] at a4
      simp only at a1 a2 a3 a4 a5
      subst a1;subst a2
      rw [e,bS]
      have:F=(List.range n).map fun i=>got (all.getD i []) n n:=by
        refine List.ext_getElem? fun i=>?_
        by_cases g:i < n
        · rw [ix [] (by omega),a4 i g,List.getElem?_map,List.getElem?_range g];rfl
        · rw [List.getElem?_eq_none (by omega),List.getElem?_eq_none (by simp;omega)]
      rw [this]
    unfold vssdeal_phase_complain
    rw [hN,mkO_some (by omega) (by omega) (by omega) (by omega),bS,Int.toNat_natCast,e1,bS,e2,bS]
    simp only
    rw [e3,bS]
  · have hz0:∀ i,i < n→∀ k,(((List.range n).map fl).getD i []).getD k 0=0:=fun i hi k=>by
      rw [map_getD hi];exact (hfl2 i hi).2.2.2.1 (fun j hj hji=>hy i hi j hj hji) k
    exact ⟨fun i hi k=>by rw [b2 i hi (.inr hd)];exact hz0 i hi k,b4 hd hz0⟩
end
theorem Sm_mat {p n t:Nat} {q:List (List (List Nat))} {tapes:List (List Nat)} (hp:0 < p) (ht:t=1 ∨ t=2) (Q:Qs p n t q tapes) {d k:Nat} (hd:d < n) (hk:k < (q.getD d []).length) :
    privityref10_New ((q.getD d []).getD k []) (rst (tapes.getD d []) t k)=some ((Sm q tapes t d).getD k [],0)∧Mat p (t+1) (t+1) ((Sm q tapes t d).getD k [])∧∀ i,i < t+1→∀ j,j < t+1→(((Sm q tapes t d).getD k []).getD i []).getD j 0=(((Sm q tapes t d).getD k []).getD j []).getD i 0:=by
  obtain ⟨w1,w2⟩:=Q.w d hd k hk
  rw [Sm_get hk]
  obtain ⟨_,a,b,c⟩:=mx_ok ht w1 (rst_len (Q.many d hd).2 hk) w2 (rst_lt (Q.ts d hd).2)
  exact ⟨a,b,c⟩
theorem Sm_len {t:Nat} {q:List (List (List Nat))} {tapes:List (List Nat)} {d:Nat}:(Sm q tapes t d).length=(q.getD d []).length:=by unfold Sm;simp
/-- the flags of all parties stand -/
structure Fl (n:Nat) (F:List (List (List Nat))):Prop where
  len:F.length=n
  row:∀ i,i < n→(F.getD i []).length=n
  w:∀ i,i < n→∀ d,d < n→((F.getD i []).getD d []).length=n
/-- what has been said in the first half -/
structure Tr1 (w:T_api_Scenario) (n t:Nat) (m:Nat→Nat) (S R:List (List (List (List Nat)))) (F:List (List (List Nat))) (v0 views:List (List T_api_Event)) (A0 A1 o0:List (List (List Nat))) (h2:List (List Nat)) (fl:Nat→List Nat):Prop where
  q0:Sq w.S.P n 6 o0
  eo0:∀ i,i < n→∀ j,j < n→(o0.getD i []).getD j []=sent w.S.P (S.getD i []) (j+1)
  a0:adversary_ApplyToMessages w 0 o0=some A0
  r:∀ i,i < n→R.getD i []=(List.range n).map fun d=>got ((A0.getD d []).getD i []) (t+1) (m d)
  a1:adversary_ApplyToMessages w 1 ((List.range n).map fun i=>(List.range n).map fun j=>vls w.S.P n m (R.getD i []) (j+1))=some A1
  efl:∀ i,i < n→(fl i).length=n*n∧Lt 2 (fl i)∧∀ j,j < n→∀ d,d < n→((fl i).getD (d*n+j) 0≠0 ↔ j≠i∧∃ q,q < m d∧((A1.getD j []).getD i []).getD ((vls w.S.P d m (R.getD i []) (j+1)).length+q) 0≠pev w.S.P (((R.getD i []).getD d []).getD q []) (j+1))
  a2:adversary_ApplyToBroadcasts w 2 ((List.range n).map fl)=some h2
  eh2:∀ i,i < n→Hn w i→h2.getD i []=fl i
  f:F=(List.range n).map fun i=>got (h2.getD i []) n n
  v:∀ j,j < n→views.getD j []=v0.getD j []++evs 0 A0 j n++evs 1 A1 j n++evB 2 h2 j n
/-- the first half: what the dealers chose, what the parties hold -/
theorem distr_ok {net:T_network_Net} [NeZero net.zw.S.P] {n t B:Nat} (s:Sc net.zw n t) (ht:t=1 ∨ t=2) (hn:n≤7) {q:List (List (List Nat))} {tapes:List (List Nat)} (Q:Qs net.zw.S.P n t q tapes) (h1:net.ztapes.length=n) (h2:∀ i,i < n→net.ztapes.getD i ⟨[],0⟩=⟨tapes.getD i [],0⟩) (hv:VB n B net.zviews) (hB:B≤400) (h0:net.zround=0) :
    ∃ S R F views T,vssdeal_Distribute net q=some (⟨S,R,F⟩,3,views,T)∧Ss net.zw.S.P n t S∧(∀ d,d < n→S.getD d []=Sm q tapes t d)∧Rr net.zw.S.P n t (fun d=>(q.getD d []).length) R ∧
      (∀ d,d < n→Hn net.zw d→∀ i,i < n→∀ k,k < (q.getD d []).length→((R.getD i []).getD d []).getD k []=Rw net.zw.S.P ((Sm q tapes t d).getD k []) (i+1))∧Fl n F∧VB n (B+3*n) views ∧
      (net.zw.Deviations=[]→Zv n net.zviews→(∀ i,i < n→∀ d,d < n→∀ j,((F.getD i []).getD d []).getD j 0=0)∧Zv n views) ∧
      (∀ i,i < n→Hn net.zw i→∀ j,j < n→Hn net.zw j→∀ d,d < n→∀ k,k < (q.getD d []).length→pev net.zw.S.P (((R.getD j []).getD d []).getD k []) (i+1)≠pev net.zw.S.P (((R.getD i []).getD d []).getD k []) (j+1)→((F.getD i []).getD d []).getD j 0≠0) ∧
      ∃ A0 A1 o0 h2 fl,Tr1 net.zw n t (fun d=>(q.getD d []).length) S R F net.zviews views A0 A1 o0 h2 fl:=by
  have hp:=s.sup
  have hlt:=hp.lt
  have ht2:t≤2:=by omega
  obtain ⟨T,S,e1,c1,c2,c3⟩:=choose_ok (p:=net.zw.S.P) (ph:=⟨net,net.zw.S,q,⟨List.replicate n [],List.replicate n [],List.replicate n []⟩⟩) ht s.n13 s.N s.T Q h1 h2 rfl
  simp only at e1 c3
  have hSs:Ss net.zw.S.P n t S:=⟨c2,fun d hd=>by rw [c3 d hd,Sm_len];exact (Q.many d hd).1,fun d hd k hk=>by
    rw [c3 d hd] at hk ⊢
    rw [Sm_len] at hk
    exact (Sm_mat (by omega) ht Q hd hk).2.1⟩
  obtain ⟨all,v1,R,e2,a1,a2,a3,a4,a5,a6,out0,p1,p2,p3⟩:=distribute_ok (n:=n) (t:=t) (ph:=⟨⟨net.zw,net.zround,net.zviews,T⟩,net.zw.S,q,⟨S,List.replicate n [],List.replicate n []⟩⟩) s ht2 rfl hSs Q.len (fun d hd=>by
    show (q.getD d []).length=(S.getD d []).length
    rw [c3 d hd,Sm_len]) rfl hv.1 (fun j hj=>Nat.le_trans (hv.2 j hj) (by omega)) (by show 0≤net.zround∧net.zround≤1000;omega)
  simp only at e2 a2 a4 a6 p1 p2 p3
  have hRr:Rr net.zw.S.P n t (fun d=>(q.getD d []).length) R:=by
    refine ⟨a5,fun i hi=>by rw [a6 i hi];simp,fun i hi d hd=>by rw [a6 i hi,map_getD hd,got_len,c3 d hd,Sm_len],fun d hd=>(Q.many d hd).1,fun i hi d hd k hk=>?_⟩
    rw [a6 i hi,map_getD hd,got_get (by rw [c3 d hd,Sm_len];exact hk)]
    exact ⟨by simp,Lt_map fun c _=>Lt.get hp.pos (a1.w d hd i hi).1 _⟩
  have hRw:∀ d,d < n→Hn net.zw d→∀ i,i < n→∀ k,k < (q.getD d []).length→((R.getD i []).getD d []).getD k []=Rw net.zw.S.P ((Sm q tapes t d).getD k []) (i+1):=fun d hd hh i hi k hk=>by
    have hk':k < (S.getD d []).length:=by rw [c3 d hd,Sm_len];exact hk
    rw [a6 i hi,map_getD hd,a2 d hd hh i hi,got_sent hp hSs ht2 hd (by omega) hk',c3 d hd]
  have hv1:=vb_send a3 a4 hv
  obtain ⟨all2,heard,v2,e3,b1,b2,b3,b4,b5,b6,b7⟩:=compare_ok (p:=net.zw.S.P) (n:=n) (t:=t) (m:=fun d=>(q.getD d []).length) (ph:=⟨⟨net.zw,net.zround+1,v1,T⟩,net.zw.S,q,⟨S,R,List.replicate n []⟩⟩) rfl s ht2 rfl hRr hv1 (by omega) (by show 0≤net.zround+1∧net.zround+1≤1000;omega)
  simp only at e3 b3 b5 b6
  have hv2:=vb_send b4 b5 hv1
  obtain ⟨all3,v3,e4,d1,d2,fl,d4,d5,d6,d7⟩:=complain_ok (p:=net.zw.S.P) (n:=n) (t:=t) (m:=fun d=>(q.getD d []).length) (ph:=⟨⟨net.zw,net.zround+1+1,v2,T⟩,net.zw.S,q,⟨S,R,List.replicate n []⟩⟩) rfl s hn ht2 rfl Q.len (fun d hd=>rfl) hRr rfl b1 b2 hv2 (by omega) (by show 0≤net.zround+1+1∧net.zround+1+1≤1000;omega)
  simp only at e4 d2 d4 d5 d6 d7
  refine ⟨S,R,(List.range n).map fun i=>got (all3.getD i []) n n,v3,T,?_,hSs,c3,hRr,hRw,⟨by simp,fun i hi=>by rw [map_getD hi,got_len],fun i hi d hd=>by rw [map_getD hi,got_get hd];simp⟩,⟨d1.1,fun j hj=>Nat.le_trans (d1.2 j hj) (by omega)⟩,fun hd hz=>?_,fun i hi hhi j hj hhj d hd k hk hne=>?_,all,all2,out0,all3,fl,?_⟩
  · unfold vssdeal_Distribute network_Net_Scenario
    rw [bS,s.N,mkO_some (by omega) (by omega) (by omega) (by omega),bS,mkO_some (by omega) (by omega) (by omega) (by omega),bS,Int.toNat_natCast,e1,bS]
    simp only
    rw [e2,bS]
    simp only
    rw [e3,bS]
    simp only
    rw [e4,bS]
    simp only
    rw [h0];rfl
  · obtain ⟨z1,z2⟩:=d2 hd (fun i hi j hj hji=>by
      rw [b3 i hi j hj (.inr hd)]
      unfold vls
      congr 1
      refine List.map_congr_left fun d hdd=>?_
      have hdn:d < n:=by simpa using hdd
      refine List.map_congr_left fun k hkk=>?_
      have hk:k < (q.getD d []).length:=by simpa using hkk
      obtain ⟨_,mm,ms⟩:=Sm_mat (p:=net.zw.S.P) (by omega) ht Q hdn hk
      rw [hRw d hdn (.inr hd) j hj k hk,hRw d hdn (.inr hd) i hi k hk]
      exact pev_sym hp mm ms (by omega) (by omega) (by omega))
    refine ⟨fun i hi d hdn j=>?_,z2 (zv_send (by omega) b5 (zv_send (by omega) a4 hz))⟩
    rw [map_getD hi,got_get hdn]
    by_cases g:j < n
    · rw [map_getD g];exact z1 i hi _
    · exact getD_ge (by simp;omega)
  · have hji:j≠i:=fun e=>by subst e;exact hne rfl
    rw [map_getD hi,got_in hd hj]
    rw [d7 i hi hhi]
    refine ((d6 i hi).2.2 j hj d hd).2 ⟨hji,k,hk,?_⟩
    rw [b3 i hi j hj hhj,vls_off (A:=R.getD i []) (B:=R.getD j []) (x:=j+1) (y:=i+1),vls_get hd hk]
    exact hne
  · have r1:net.zround+1=1:=by omega
    have r2:net.zround+1+1=2:=by omega
    refine ⟨p1,p2,by rw [← h0];exact p3,fun i hi=>by rw [a6 i hi];exact List.map_congr_left fun d hd=>by rw [c3 d (by simpa using hd),Sm_len],by rw [← r1];exact b6,fun i hi=>⟨(d6 i hi).1,(d6 i hi).2.1,fun j hj d hd=>by rw [← b7 i hi j hj];exact (d6 i hi).2.2 j hj d hd⟩,by rw [← r2];exact d4,d7,rfl,fun j hj=>?_⟩
    rw [d5 j hj,b5 j hj,a4 j hj,r2,r1,h0]
end Pu
