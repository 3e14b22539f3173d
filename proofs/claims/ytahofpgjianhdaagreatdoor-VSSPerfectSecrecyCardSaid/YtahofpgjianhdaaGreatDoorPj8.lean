/- Plain laws of chapter 19: what sharing gives. -/
import Derived.Test.YtahofpgjianhdaaGreatDoorPm1
set_option linter.unusedVariables false
namespace Pu
open Gw Gl Sp
theorem cnt_eq0 {f:Nat→Bool} {n:Nat} (h:∀ i,i < n→f i=false):cnt f n=0:=by
  unfold cnt
  rw [List.length_eq_zero_iff]
  apply List.eq_nil_iff_forall_not_mem.2
  intro x hx
  obtain ⟨h1,h2⟩:=List.mem_filter.1 hx
  rw [h x (by simpa using h1)] at h2;cases h2
/-- not more than T are against an honest dealer -/
theorem cnt_bad {w:T_api_Scenario} {n t:Nat} (s:Sc w n t) {f:Nat→Bool} (h:∀ i,i < n→Hn w i→f i=false):cnt f n≤t:=by
  by_cases hd:w.Deviations=[]
  · rw [cnt_eq0 (fun i hi=>h i hi (.inr hd))];omega
  · have:=sub_len (l1:=((List.range n).filter f).map fun i=>((i:Nat):Int)+1) (l2:=w.Corrupt) (by
      rw [List.Nodup,List.pairwise_map]
      exact List.Pairwise.imp (fun {a b} h=>by omega) (List.Pairwise.sublist List.filter_sublist List.nodup_range)) (fun x hx=>by
      obtain ⟨i,hi,rfl⟩:=List.mem_map.1 hx
      obtain ⟨h1,h2⟩:=List.mem_filter.1 hi
      apply Classical.byContradiction
      intro hc
      rw [h i (by simpa using h1) (.inl hc)] at h2;cases h2)
    rw [List.length_map] at this
    have:=s.cl
    unfold cnt;omega
theorem cnt_cor {w:T_api_Scenario} {n t:Nat} (s:Sc w n t):cnt (fun i=>decide (((i+1:Nat):Int) ∈ w.Corrupt)) n≤t:=by
  have:=sub_len (l1:=((List.range n).filter fun i=>decide (((i+1:Nat):Int) ∈ w.Corrupt)).map fun i=>((i:Nat):Int)+1) (l2:=w.Corrupt) (by
    rw [List.Nodup,List.pairwise_map]
    exact List.Pairwise.imp (fun {a b} h=>by omega) (List.Pairwise.sublist List.filter_sublist List.nodup_range)) (fun x hx=>by
    obtain ⟨i,hi,rfl⟩:=List.mem_map.1 hx
    exact of_decide_eq_true (List.mem_filter.1 hi).2)
  rw [List.length_map] at this
  have:=s.cl
  unfold cnt;omega
theorem dis_in {F:List (List (List Nat))} {n d k i j:Nat} (hi:i < k) (hj:j < n) (h:((F.getD i []).getD d []).getD j 0≠0):∃ q,q < (dis F n d k).length∧(dis F n d k).getD q ⟨0,0⟩=⟨((i:Nat):Int),((j:Nat):Int)⟩:=by
  have hm:(⟨((i:Nat):Int),((j:Nat):Int)⟩:T_arr2_3) ∈ dis F n d k:=by
    unfold dis
    refine List.mem_flatten.2 ⟨_,List.mem_map.2 ⟨i,List.mem_range.2 hi,rfl⟩,List.mem_map.2 ⟨j,List.mem_filter.2 ⟨List.mem_range.2 hj,decide_eq_true h⟩,rfl⟩⟩
  obtain ⟨q,hq,e⟩:=List.getElem_of_mem hm
  exact ⟨q,hq,by rw [List.getD_eq_getElem?_getD,List.getElem?_eq_getElem hq];exact e⟩
theorem oth_l {x:T_arr2_3} {i:Nat} (h:x.e0=((i:Nat):Int)):∃ r,r < (oth x i).length∧(oth x i).getD r 0=x.e1:=by
  unfold oth
  rw [if_pos h]
  exact ⟨0,by simp,rfl⟩
theorem oth_r {x:T_arr2_3} {i:Nat} (h:x.e1=((i:Nat):Int)):∃ r,r < (oth x i).length∧(oth x i).getD r 0=x.e0:=by
  unfold oth
  rw [if_pos h]
  split
  · exact ⟨1,by simp,rfl⟩
  · exact ⟨0,by simp,rfl⟩
theorem Rr_congr {p n t:Nat} {m m':Nat→Nat} {R:List (List (List (List Nat)))} (h:∀ d,d < n→m d=m' d) (r:Rr p n t m R):Rr p n t m' R:=⟨r.len,r.row,fun i hi d hd=>by rw [r.many i hi d hd,h d hd],fun d hd=>by rw [← h d hd];exact r.m2 d hd,fun i hi d hd k hk=>r.w i hi d hd k (by rw [h d hd];exact hk)⟩
/-- the result of sharing stands -/
structure Res (w:T_api_Scenario) (q:List (List (List Nat))) (n t:Nat) (res:T_api_VSSResult):Prop where
  rl:res.Rows.length=n
  dl:res.Disqualified.length=n
  row:∀ i,i < n→(res.Rows.getD i []).length=n
  many:∀ i,i < n→∀ d,d < n→((res.Rows.getD i []).getD d []).length=(q.getD d []).length
  ww:∀ i,i < n→∀ d,d < n→∀ k,k < (q.getD d []).length→(((res.Rows.getD i []).getD d []).getD k []).length=t+1∧Lt w.S.P (((res.Rows.getD i []).getD d []).getD k [])
  nd:∀ d,d < n→Hn w d→res.Disqualified.getD d false=false
  ok:∀ d,d < n→Hn w d→∀ i,i < n→Hn w i→∀ k,k < (q.getD d []).length→((res.Rows.getD i []).getD d []).getD k []=Rw w.S.P ((Sm q w.Tapes t d).getD k []) (i+1)
/-- sharing binds the dealers -/
structure Com (w:T_api_Scenario) (q:List (List (List Nat))) (n t:Nat) [NeZero w.S.P] (res:T_api_VSSResult):Prop where
  dz:∀ d,d < n→res.Disqualified.getD d false=true→∀ i,i < n→∀ k,k < (q.getD d []).length→((res.Rows.getD i []).getD d []).getD k []=List.replicate (t+1) 0
  cs:∀ d,d < n→∀ k,k < (q.getD d []).length→∀ i,i < n→Hn w i→∀ j,j < n→Hn w j→pev w.S.P (((res.Rows.getD i []).getD d []).getD k []) (j+1)=pev w.S.P (((res.Rows.getD j []).getD d []).getD k []) (i+1)
  sp:∀ d,d < n→∀ k,k < (q.getD d []).length→∃ f,Lt w.S.P f∧f.length≤t+1∧∀ i,i < n→Hn w i→o w.S.P ((((res.Rows.getD i []).getD d []).getD k []).getD 0 0)=evl (P w.S.P f) (o w.S.P (i+1))
theorem zero_row {p n x:Nat} [NeZero p]:evl (P p (List.replicate n 0)) (o p x)=0:=evl_cf0 (fun i=>by
  rw [P_cf,List.getD_eq_getElem?_getD,List.getElem?_replicate]
  split <;> exact o_zero) _
/-- the rows that the honest parties finally hold agree -/
theorem held_joint {w:T_api_Scenario} [NeZero w.S.P] {n t d k:Nat} (s:Sc w n t) (ht:t≤2) {z:T_api_VSSState} {m:Nat→Nat} {ans:List (List Nat)} {told:List (List (List (List Nat)))} {acc obj:List (List Bool)} (hm:(z.S.getD d []).length=m d) (hR:Rr w.S.P n t m z.Rows) (hd:d < n) (hk:k < m d)
    (a2:∀ i,i < n→Hn w i→(ac acc d i=true ↔ Wr w.S.P n z i d ans)) (a3:Td w.S.P n t m acc told) (a5:∀ i,i < n→Hn w i→(ac obj d i=true ↔ Ob w.S.P n z.Rows told acc i d))
    (hfl:∀ i,i < n→Hn w i→∀ j,j < n→Hn w j→pev w.S.P (((z.Rows.getD j []).getD d []).getD k []) (i+1)≠pev w.S.P (((z.Rows.getD i []).getD d []).getD k []) (j+1)→((z.Flags.getD i []).getD d []).getD j 0≠0) (hdq:dq n t acc obj d=false) {f:Nat→List Nat}
    (hf:∀ i,i < n→f i=if ac acc d i then ((told.getD d []).getD i []).getD k [] else ((z.Rows.getD i []).getD d []).getD k []) :
    (∀ i j,i < n→Hn w i→j < n→Hn w j→pev w.S.P (f i) (j+1)=pev w.S.P (f j) (i+1))∧∃ h:List Nat,Lt w.S.P h∧h.length≤t+1∧∀ i,i < n→Hn w i→o w.S.P ((f i).getD 0 0)=evl (P w.S.P h) (o w.S.P (i+1)):=by
  have hp:=s.sup
  have hlt:=hp.lt
  have h13:=s.n13
  have h3:=s.t3
  have hc1:cnt (ag acc obj d) n≤t:=by
    have:=of_decide_eq_false hdq
    omega
  have hc2:=cnt_cor s
  have hfw:∀ i,i < n→(f i).length=t+1∧Lt w.S.P (f i):=fun i hi=>by
    rw [hf i hi]
    split
    · rename_i h;exact a3.w d hd i hi h k hk
    · exact hR.w i hi d hd k hk
  have hc3:=cnt3 (f:=fun i=>decide (((i+1:Nat):Int) ∉ w.Corrupt) && !ag acc obj d i) (g:=ag acc obj d) (h:=fun i=>decide (((i+1:Nat):Int) ∈ w.Corrupt)) (n:=n) (fun i _=>by
    by_cases g:((i+1:Nat):Int) ∈ w.Corrupt
    · exact .inr (.inr (decide_eq_true g))
    · cases h:ag acc obj d i
      · left;rw [decide_eq_true g];rfl
      · exact .inr (.inl rfl))
  generalize hG:(List.range n).filter (fun i=>decide (((i+1:Nat):Int) ∉ w.Corrupt) && !ag acc obj d i)=G
  have hGl:t+1≤G.length:=by
    have:cnt (fun i=>decide (((i+1:Nat):Int) ∉ w.Corrupt) && !ag acc obj d i) n=G.length:=by rw [← hG];rfl
    omega
  have hGg:∀ g,g < t+1→G.getD g 0 < n∧Hn w (G.getD g 0)∧ac acc d (G.getD g 0)=false∧ac obj d (G.getD g 0)=false:=fun g hg=>by
    have h1:=getD_in (d:=0) (show g < G.length by omega)
    rw [← hG] at h1 ⊢
    obtain ⟨h2,h4⟩:=List.mem_filter.1 h1
    rw [Bool.and_eq_true] at h4
    obtain ⟨h5,h6⟩:=h4
    have h6:ag acc obj d (((List.range n).filter (fun i=>decide (((i+1:Nat):Int) ∉ w.Corrupt) && !ag acc obj d i)).getD g 0)=false:=by
      cases hh:ag acc obj d (((List.range n).filter (fun i=>decide (((i+1:Nat):Int) ∉ w.Corrupt) && !ag acc obj d i)).getD g 0)
      · rfl
      · rw [hh] at h6;cases h6
    unfold ag at h6
    rw [Bool.or_eq_false_iff] at h6
    exact ⟨by simpa using h2,.inl (of_decide_eq_true h5),h6.1,h6.2⟩
  have hGp:G.Pairwise (· < ·):=by rw [← hG];exact List.Pairwise.sublist List.filter_sublist List.pairwise_lt_range
  have hGn:∀ g h,g < t+1→h < t+1→g≠h→G.getD g 0≠G.getD h 0:=fun g h hg hh hne=>by
    rw [List.getD_eq_getElem?_getD,List.getD_eq_getElem?_getD,List.getElem?_eq_getElem (show g < G.length by omega),List.getElem?_eq_getElem (show h < G.length by omega)]
    show G[g]≠G[h]
    rcases Nat.lt_or_gt_of_ne hne with c | c
    · have:=List.pairwise_iff_getElem.1 hGp g h (by omega) (by omega) c;omega
    · have:=List.pairwise_iff_getElem.1 hGp h g (by omega) (by omega) c;omega
  have key:∀ i,i < n→Hn w i→∀ g,g < t+1→pev w.S.P (f i) (G.getD g 0+1)=pev w.S.P (f (G.getD g 0)) (i+1):=fun i hi hhi g hg=>by
    obtain ⟨c1,c2,c3,c4⟩:=hGg g hg
    generalize G.getD g 0=y at c1 c2 c3 c4
    rw [hf y c1,c3,if_neg (by decide),hf i hi]
    cases hb:ac acc d i
    · rw [if_neg (by decide)]
      apply Classical.byContradiction
      intro hne
      have h1:=hfl y c1 c2 i hi hhi hne
      obtain ⟨q,hq,hx⟩:=dis_in (n:=n) (k:=n) c1 hi h1
      have w1:¬ Wr w.S.P n z y d ans:=fun h=>by rw [(a2 y c1 c2).2 h] at c3;cases c3
      have w2:¬ Wr w.S.P n z i d ans:=fun h=>by rw [(a2 i hi hhi).2 h] at hb;cases hb
      obtain ⟨r1,hr1,e1⟩:=oth_l (x:=(dis z.Flags n d n).getD q ⟨0,0⟩) (i:=y) (by rw [hx])
      obtain ⟨r2,hr2,e2⟩:=oth_r (x:=(dis z.Flags n d n).getD q ⟨0,0⟩) (i:=i) (by rw [hx])
      have v1:pev w.S.P (((z.Rows.getD y []).getD d []).getD k []) (i+1)=(ans.getD q []).getD k 0:=by
        apply Classical.byContradiction
        intro hh
        refine w1 ⟨q,hq,r1,hr1,k,by rw [hm];exact hk,?_⟩
        rw [e1,hx];exact hh
      have v2:pev w.S.P (((z.Rows.getD i []).getD d []).getD k []) (y+1)=(ans.getD q []).getD k 0:=by
        apply Classical.byContradiction
        intro hh
        refine w2 ⟨q,hq,r2,hr2,k,by rw [hm];exact hk,?_⟩
        rw [e2,hx];exact hh
      exact hne (by rw [v1,v2])
    · rw [if_pos rfl]
      apply Classical.byContradiction
      intro hne
      have:ac obj d y=true:=(a5 y c1 c2).2 ⟨c3,i,hi,k,by rw [a3.many d hd i hi hb];exact hk,hne⟩
      rw [this] at c4;cases c4
  obtain ⟨j1,h,j2,j3,j4⟩:=joint hp (t:=t) (H:=fun i=>i < n∧Hn w i) (f:=f) (X:=fun i=>o w.S.P (i+1)) (G:=fun g=>G.getD g 0) (fun g hg=>⟨(hGg g hg).1,(hGg g hg).2.1⟩) (fun g h hg hh hne e=>by
      have h1:=(hGg g hg).1
      have h2:=(hGg h hh).1
      have:=o_inj (p:=w.S.P) (by omega) (by omega) e
      exact hGn g h hg hh hne (by omega)) (fun i hi=>by rw [(hfw i hi.1).1];exact Nat.le_refl _) (fun i hi g hg=>by
      have h1:=(hGg g hg).1
      have e1:=(pev_ok hp (hfw i hi.1).2 (show G.getD g 0+1 < w.S.P by omega) (by rw [(hfw i hi.1).1];omega)).2.2
      have e2:=(pev_ok hp (hfw _ h1).2 (show i+1 < w.S.P by omega) (by rw [(hfw _ h1).1];omega)).2.2
      rw [← e1,← e2,key i hi.1 hi.2 g hg])
  refine ⟨fun i j hi hhi hj hhj=>?_,h,j2,j3,fun i hi hhi=>j4 i ⟨hi,hhi⟩⟩
  obtain ⟨_,p1,e1⟩:=pev_ok hp (hfw i hi).2 (show j+1 < w.S.P by omega) (by rw [(hfw i hi).1];omega)
  obtain ⟨_,p2,e2⟩:=pev_ok hp (hfw j hj).2 (show i+1 < w.S.P by omega) (by rw [(hfw j hj).1];omega)
  exact o_inj p1 p2 (by rw [e1,e2];exact j1 i j ⟨hi,hhi⟩ ⟨hj,hhj⟩)
/-- all that has been said -/
def Trace (w:T_api_Scenario) (n t:Nat) (q:List (List (List Nat))) (views:List (List T_api_Event)):Prop:=∃ S R F v1 A0 A1 o0 h2 fl ans told acc obj h3 h4 h5 h6 b1 b2,(∀ d,d < n→S.getD d []=Sm q w.Tapes t d)∧Ss w.S.P n t S∧Rr w.S.P n t (fun d=>(q.getD d []).length) R ∧
  (∀ d,d < n→Hn w d→∀ i,i < n→∀ k,k < (q.getD d []).length→((R.getD i []).getD d []).getD k []=Rw w.S.P ((Sm q w.Tapes t d).getD k []) (i+1))∧(∀ d,d < n→Hn w d→∀ i,i < n→Hn w i→ac acc d i=false) ∧
  Tr1 w n t (fun d=>(q.getD d []).length) S R F (List.replicate n []) v1 A0 A1 o0 h2 fl∧Tr2 w n t ⟨S,R,F⟩ 3 v1 views ans told acc obj h3 h4 h5 h6 b1 b2
/-- sharing -/
theorem share_ok {w:T_api_Scenario} [NeZero w.S.P] {n t:Nat} {q:List (List (List Nat))} (v:Va w n t) (ht:t=1 ∨ t=2) (hn:n≤7) (Q:Qs w.S.P n t q w.Tapes) :
    ∃ res views T,vss_Share ⟨w,0,List.replicate n [],w.Tapes.map fun l=>⟨l,0⟩⟩ q=some (res,7,views,T)∧Res w q n t res∧VB n 100 views∧(w.Deviations=[]→Zv n views)∧Com w q n t res∧Trace w n t q views:=by
  have s:=v.toSc
  have hp:=s.sup
  have hlt:=hp.lt
  have ht2:t≤2:=by omega
  have hz0:∀ j,j < n→(List.replicate n ([]:List T_api_Event)).getD j []=[]:=fun j hj=>by rw [List.getD_eq_getElem?_getD,List.getElem?_replicate,if_pos hj];rfl
  obtain ⟨S,R,F,v1,T,e1,hS,hSm,hR,hRw,hF,hv1,hz1,hfl,A0,A1,o0,h2,fl,hT1⟩:=distr_ok (net:=⟨w,0,List.replicate n [],w.Tapes.map fun l=>⟨l,0⟩⟩) (B:=0) s ht hn Q (by simp [v.tl]) (fun i hi=>by
    have:i < w.Tapes.length:=by rw [v.tl];exact hi
    simp [List.getD_eq_getElem?_getD,this]) ⟨by simp,fun j hj=>by show ((List.replicate n ([]:List T_api_Event)).getD j []).length≤0;rw [hz0 j hj];simp⟩ (by omega) rfl
  simp only at hS hR hRw hz1
  have hm:∀ d,d < n→(q.getD d []).length=(S.getD d []).length:=fun d hd=>by rw [hSm d hd,Sm_len]
  obtain ⟨ans,told,acc,obj,v2,e2,a1,a2,a3,a4,a5,a6,a7,h3,h4,h5,h6,b1,b2,hT2⟩:=complete_ok (net:=⟨w,3,v1,T⟩) (z:=⟨S,R,F⟩) s hn ht2 hS (Rr_congr hm hR) hF hv1 (by omega) (by show 0≤(3:Int)∧(3:Int)≤900;omega)
  simp only at e2 a1 a2 a3 a4 a5 a7
  have hgen:∀ i,i < n→∀ d,d < n→(((List.range n).map fun i=>(List.range n).map fun d=>hld t (S.getD d []).length ((R.getD i []).getD d []) ((told.getD d []).getD i []) (dq n t acc obj d) (ac acc d i)).getD i []).getD d []=hld t (S.getD d []).length ((R.getD i []).getD d []) ((told.getD d []).getD i []) (dq n t acc obj d) (ac acc d i):=fun i hi d hd=>by rw [map_getD hi,map_getD hd]
  have sym:=fun (d:Nat) (hd:d < n) (k:Nat) (hk:k < (q.getD d []).length) (x y:Nat) (hx:x < w.S.P) (hy:y < w.S.P)=>pev_sym hp (Sm_mat (p:=w.S.P) (by omega) ht Q hd hk).2.1 (Sm_mat (p:=w.S.P) (by omega) ht Q hd hk).2.2 (by omega) hx hy
  have hac:∀ d,d < n→Hn w d→∀ i,i < n→Hn w i→ac acc d i=false:=fun d hd hh i hi hi2=>by
    cases h:ac acc d i
    · rfl
    · obtain ⟨c,hc,r,hr,k,hk,hne⟩:=(a2 i hi hi2 d hd).1 h
      simp only at hc hr hk hne
      have hk2:k < (q.getD d []).length:=by rw [hm d hd];exact hk
      rw [a1 d hd hh,say1_get hc hk,hRw d hd hh i hi k hk2,hSm d hd] at hne
      obtain ⟨e0,e1,h0,h1,_,hx⟩:=dis_mem (getD_in (d:=(⟨0,0⟩:T_arr2_3)) hc)
      rw [hx] at hr hne
      exfalso
      apply hne
      unfold evM
      simp only [Int.toNat_natCast]
      rcases oth_in hr with ⟨g1,g2⟩ | ⟨g1,g2⟩
      · simp only at g1 g2
        have:e0=i:=by omega
        rw [g1,this,Int.toNat_natCast]
      · simp only at g1 g2
        have:e1=i:=by omega
        rw [g1,this,Int.toNat_natCast]
        exact sym d hd k hk2 _ _ (by omega) (by omega)
  have hob:∀ d,d < n→Hn w d→∀ i,i < n→Hn w i→ac obj d i=false:=fun d hd hh i hi hi2=>by
    cases h:ac obj d i
    · rfl
    · obtain ⟨_,a,ha,k,hk,hne⟩:=(a5 i hi hi2 d hd).1 h
      have hba:ac acc d a=true:=by
        cases h2:ac acc d a
        · rw [a3.no d hd a ha h2] at hk;simp at hk
        · rfl
      have hk1:k < (S.getD d []).length:=by rw [a3.many d hd a ha hba] at hk;exact hk
      have hk2:k < (q.getD d []).length:=by rw [hm d hd];exact hk1
      rw [a4 d hd hh a ha hba k hk1,hRw d hd hh i hi k hk2,hSm d hd] at hne
      exact absurd (sym d hd k hk2 _ _ (by omega) (by omega)) hne
  have hdq:∀ d,d < n→Hn w d→dq n t acc obj d=false:=fun d hd hh=>by
    have:=cnt_bad s (f:=ag acc obj d) (fun i hi hi2=>by unfold ag;rw [hac d hd hh i hi hi2,hob d hd hh i hi hi2];rfl)
    exact decide_eq_false (by omega)
  refine ⟨⟨(List.range n).map fun i=>(List.range n).map fun d=>hld t (S.getD d []).length ((R.getD i []).getD d []) ((told.getD d []).getD i []) (dq n t acc obj d) (ac acc d i),(List.range n).map (dq n t acc obj)⟩,v2,T,?_,⟨by simp,by simp,fun i hi=>by rw [map_getD hi];simp,fun i hi d hd=>?_,fun i hi d hd k hk=>?_,fun d hd hh=>?_,fun d hd hh i hi hi2 k hk=>?_⟩,⟨a6.1,fun j hj=>Nat.le_trans (a6.2 j hj) (by omega)⟩,fun hd=>?_,?_,⟨S,R,F,v1,A0,A1,o0,h2,fl,_,told,acc,obj,h3,h4,h5,h6,b1,b2,hSm,hS,hR,hRw,hac,hT1,hT2⟩⟩
  · unfold vss_Share
    rw [e1,bS]
    simp only
    rw [e2,bS]
    rfl
  · rw [hgen i hi d hd]
    unfold hld
    split
    · rw [List.length_replicate,hm d hd]
    · split
      · rename_i h;rw [a3.many d hd i hi h,hm d hd]
      · exact hR.many i hi d hd
  · rw [hgen i hi d hd]
    have hk1:k < (S.getD d []).length:=by rw [← hm d hd];exact hk
    unfold hld
    split
    · rw [List.getD_eq_getElem?_getD,List.getElem?_replicate,if_pos hk1]
      refine ⟨by simp,fun c hc=>?_⟩
      show (List.replicate (t+1) 0).getD c 0 < _
      rw [List.getD_eq_getElem?_getD,List.getElem?_replicate]
      split
      · exact hp.pos
      · exact hp.pos
    · split
      · rename_i h;exact a3.w d hd i hi h k hk1
      · exact hR.w i hi d hd k hk
  · show ((List.range n).map (dq n t acc obj)).getD d false=false
    rw [map_getD hd];exact hdq d hd hh
  · rw [hgen i hi d hd,hdq d hd hh,hac d hd hh i hi hi2]
    exact hRw d hd hh i hi k hk
  · obtain ⟨z1,z2⟩:=hz1 hd (fun j hj e he=>by rw [hz0 j hj] at he;simp at he)
    exact a7 hd (fun d hdn=>dis_nil fun i hi j=>z1 i hi d hdn j) z2
  · have hall:∀ d,d < n→∀ k,k < (q.getD d []).length→(dq n t acc obj d=true∧∀ i,i < n→(hld t (S.getD d []).length ((R.getD i []).getD d []) ((told.getD d []).getD i []) (dq n t acc obj d) (ac acc d i)).getD k []=List.replicate (t+1) 0) ∨ (dq n t acc obj d=false∧∀ i,i < n→(hld t (S.getD d []).length ((R.getD i []).getD d []) ((told.getD d []).getD i []) (dq n t acc obj d) (ac acc d i)).getD k []=if ac acc d i then ((told.getD d []).getD i []).getD k [] else ((R.getD i []).getD d []).getD k []):=fun d hd k hk=>by
      have hk1:k < (S.getD d []).length:=by rw [← hm d hd];exact hk
      cases hq:dq n t acc obj d
      · refine .inr ⟨rfl,fun i hi=>?_⟩
        unfold hld
        rw [if_neg (by decide)]
        split <;> rfl
      · refine .inl ⟨rfl,fun i hi=>?_⟩
        unfold hld
        rw [if_pos rfl,List.getD_eq_getElem?_getD,List.getElem?_replicate,if_pos hk1];rfl
    have hj:=fun (d:Nat) (hd:d < n) (k:Nat) (hk:k < (q.getD d []).length) (hq:dq n t acc obj d=false) (f:Nat→List Nat) (hf:∀ i,i < n→f i=if ac acc d i then ((told.getD d []).getD i []).getD k [] else ((R.getD i []).getD d []).getD k []) =>
      held_joint (z:=⟨S,R,F⟩) (m:=fun d=>(q.getD d []).length) (obj:=obj) s ht2 (by show (S.getD d []).length=_;exact (hm d hd).symm) hR hd hk (fun i hi hhi=>a2 i hi hhi d hd) ⟨a3.len,a3.row,a3.no,fun d hd a ha h=>by rw [a3.many d hd a ha h,hm d hd],fun d hd a ha h k hk=>a3.w d hd a ha h k (by show k < (S.getD d []).length;rw [← hm d hd];exact hk)⟩ (fun i hi hhi=>a5 i hi hhi d hd) (fun i hi hhi j hj hhj hne=>hfl i hi hhi j hj hhj d hd k hk hne) hq hf
    refine ⟨fun d hd hq i hi k hk=>?_,fun d hd k hk i hi hhi j hj' hhj=>?_,fun d hd k hk=>?_⟩
    · have hq:dq n t acc obj d=true:=by rw [← hq];show _=((List.range n).map (dq n t acc obj)).getD d false;rw [map_getD hd]
      rw [hgen i hi d hd]
      rcases hall d hd k hk with ⟨_,h⟩ | ⟨h,_⟩
      · exact h i hi
      · rw [h] at hq;cases hq
    · rw [hgen i hi d hd,hgen j hj' d hd]
      rcases hall d hd k hk with ⟨_,h⟩ | ⟨hq,h⟩
      · rw [h i hi,h j hj']
        have hL:Lt w.S.P (List.replicate (t+1) 0):=fun c hc=>by
          rw [List.getD_eq_getElem?_getD,List.getElem?_replicate]
          split <;> exact hp.pos
        obtain ⟨_,p1,e1⟩:=pev_ok hp hL (show j+1 < w.S.P by omega) (by simp;omega)
        obtain ⟨_,p2,e2⟩:=pev_ok hp hL (show i+1 < w.S.P by omega) (by simp;omega)
        exact o_inj p1 p2 (by rw [e1,e2,zero_row,zero_row])
      · exact (hj d hd k hk hq _ h).1 i j hi hhi hj' hhj
    · rcases hall d hd k hk with ⟨_,h⟩ | ⟨hq,h⟩
      · refine ⟨[],fun i hi=>by simp at hi,by simp,fun i hi _=>?_⟩
        rw [hgen i hi d hd,h i hi,List.getD_eq_getElem?_getD,List.getElem?_replicate,if_pos (by omega)]
        exact o_zero
      · obtain ⟨_,g,g1,g2,g3⟩:=hj d hd k hk hq _ h
        refine ⟨g,g1,g2,fun i hi hhi=>?_⟩
        rw [hgen i hi d hd]
        exact g3 i hi hhi
end Pu
