/- Plain laws of chapter 19: what sharing gives. -/
import Derived.Test.YtahofpgjianhdaaGreatDoorPj7
set_option linter.unusedVariables false
namespace Pu
open Gw Gl Sp
theorem cnt_eq0 {f:Nat→Bool} {n:Nat} (h:∀ i,i < n→f i=false):cnt f n=0:=by
  unfold cnt
  rw [List.length_eq_zero_iff]
  apply List.eq_nil_iff_forall_not_mem.2
  intro x hx
  obtain ⟨h1,h2⟩:=List.mem_filter.1 hx
  rw [h x (by simpa using h1)] at h2;cases h2
/-- not more than T are against an honest dealer -/
theorem cnt_bad {w:T_api_Scenario} {n t:Nat} (s:Sc w n t) {f:Nat→Bool} (h:∀ i,i < n→Hn w i→f i=false):cnt f n≤t:=by
  by_cases hd:w.Deviations=[]
  · rw [cnt_eq0 (fun i hi=>h i hi (.inr hd))];omega
  · have:=sub_len (l1:=((List.range n).filter f).map fun i=>((i:Nat):Int)+1) (l2:=w.Corrupt) (by
      rw [List.Nodup,List.pairwise_map]
      exact List.Pairwise.imp (fun {a b} h=>by omega) (List.Pairwise.sublist List.filter_sublist List.nodup_range)) (fun x hx=>by
      obtain ⟨i,hi,rfl⟩:=List.mem_map.1 hx
      obtain ⟨h1,h2⟩:=List.mem_filter.1 hi
      apply Classical.byContradiction
      intro hc
      rw [h i (by simpa using h1) (.inl hc)] at h2;cases h2)
    rw [List.length_map] at this
    have:=s.cl
    unfold cnt;omega
theorem Rr_congr {p n t:Nat} {m m':Nat→Nat} {R:List (List (List (List Nat)))} (h:∀ d,d < n→m d=m' d) (r:Rr p n t m R):Rr p n t m' R:=⟨r.len,r.row,fun i hi d hd=>by rw [r.many i hi d hd,h d hd],fun d hd=>by rw [← h d hd];exact r.m2 d hd,fun i hi d hd k hk=>r.w i hi d hd k (by rw [h d hd];exact hk)⟩
/-- the result of sharing stands -/
structure Res (w:T_api_Scenario) (q:List (List (List Nat))) (n t:Nat) (res:T_api_VSSResult):Prop where
  rl:res.Rows.length=n
  dl:res.Disqualified.length=n
  row:∀ i,i < n→(res.Rows.getD i []).length=n
  many:∀ i,i < n→∀ d,d < n→((res.Rows.getD i []).getD d []).length=(q.getD d []).length
  ww:∀ i,i < n→∀ d,d < n→∀ k,k < (q.getD d []).length→(((res.Rows.getD i []).getD d []).getD k []).length=t+1∧Lt w.S.P (((res.Rows.getD i []).getD d []).getD k [])
  nd:∀ d,d < n→Hn w d→res.Disqualified.getD d false=false
  ok:∀ d,d < n→Hn w d→∀ i,i < n→Hn w i→∀ k,k < (q.getD d []).length→((res.Rows.getD i []).getD d []).getD k []=Rw w.S.P ((Sm q w.Tapes t d).getD k []) (i+1)
/-- sharing -/
theorem share_ok {w:T_api_Scenario} [NeZero w.S.P] {n t:Nat} {q:List (List (List Nat))} (v:Va w n t) (ht:t=1 ∨ t=2) (hn:n≤7) (Q:Qs w.S.P n t q w.Tapes) :
    ∃ res views T,vss_Share ⟨w,0,List.replicate n [],w.Tapes.map fun l=>⟨l,0⟩⟩ q=some (res,7,views,T)∧Res w q n t res∧VB n 100 views∧(w.Deviations=[]→Zv n views):=by
  have s:=v.toSc
  have hp:=s.sup
  have hlt:=hp.lt
  have ht2:t≤2:=by omega
  have hz0:∀ j,j < n→(List.replicate n ([]:List T_api_Event)).getD j []=[]:=fun j hj=>by rw [List.getD_eq_getElem?_getD,List.getElem?_replicate,if_pos hj];rfl
  obtain ⟨S,R,F,v1,T,e1,hS,hSm,hR,hRw,hF,hv1,hz1⟩:=distr_ok (net:=⟨w,0,List.replicate n [],w.Tapes.map fun l=>⟨l,0⟩⟩) (B:=0) s ht hn Q (by simp [v.tl]) (fun i hi=>by
    have:i < w.Tapes.length:=by rw [v.tl];exact hi
    simp [List.getD_eq_getElem?_getD,this]) ⟨by simp,fun j hj=>by show ((List.replicate n ([]:List T_api_Event)).getD j []).length≤0;rw [hz0 j hj];simp⟩ (by omega) rfl
  simp only at hS hR hRw hz1
  have hm:∀ d,d < n→(q.getD d []).length=(S.getD d []).length:=fun d hd=>by rw [hSm d hd,Sm_len]
  obtain ⟨ans,told,acc,obj,v2,e2,a1,a2,a3,a4,a5,a6,a7⟩:=complete_ok (net:=⟨w,3,v1,T⟩) (z:=⟨S,R,F⟩) s hn ht2 hS (Rr_congr hm hR) hF hv1 (by omega) (by show 0≤(3:Int)∧(3:Int)≤900;omega)
  simp only at e2 a1 a2 a3 a4 a5 a7
  have hgen:∀ i,i < n→∀ d,d < n→(((List.range n).map fun i=>(List.range n).map fun d=>hld t (S.getD d []).length ((R.getD i []).getD d []) ((told.getD d []).getD i []) (dq n t acc obj d) (ac acc d i)).getD i []).getD d []=hld t (S.getD d []).length ((R.getD i []).getD d []) ((told.getD d []).getD i []) (dq n t acc obj d) (ac acc d i):=fun i hi d hd=>by rw [map_getD hi,map_getD hd]
  have sym:=fun (d:Nat) (hd:d < n) (k:Nat) (hk:k < (q.getD d []).length) (x y:Nat) (hx:x < w.S.P) (hy:y < w.S.P)=>pev_sym hp (Sm_mat (p:=w.S.P) (by omega) ht Q hd hk).2.1 (Sm_mat (p:=w.S.P) (by omega) ht Q hd hk).2.2 (by omega) hx hy
  have hac:∀ d,d < n→Hn w d→∀ i,i < n→Hn w i→ac acc d i=false:=fun d hd hh i hi hi2=>by
    cases h:ac acc d i
    · rfl
    · obtain ⟨c,hc,r,hr,k,hk,hne⟩:=(a2 i hi hi2 d hd).1 h
      simp only at hc hr hk hne
      have hk2:k < (q.getD d []).length:=by rw [hm d hd];exact hk
      rw [a1 d hd hh,say1_get hc hk,hRw d hd hh i hi k hk2,hSm d hd] at hne
      obtain ⟨e0,e1,h0,h1,_,hx⟩:=dis_mem (getD_in (d:=(⟨0,0⟩:T_arr2_3)) hc)
      rw [hx] at hr hne
      exfalso
      apply hne
      unfold evM
      simp only [Int.toNat_natCast]
      rcases oth_in hr with ⟨g1,g2⟩ | ⟨g1,g2⟩
      · simp only at g1 g2
        have:e0=i:=by omega
        rw [g1,this,Int.toNat_natCast]
      · simp only at g1 g2
        have:e1=i:=by omega
        rw [g1,this,Int.toNat_natCast]
        exact sym d hd k hk2 _ _ (by omega) (by omega)
  have hob:∀ d,d < n→Hn w d→∀ i,i < n→Hn w i→ac obj d i=false:=fun d hd hh i hi hi2=>by
    cases h:ac obj d i
    · rfl
    · obtain ⟨_,a,ha,k,hk,hne⟩:=(a5 i hi hi2 d hd).1 h
      have hba:ac acc d a=true:=by
        cases h2:ac acc d a
        · rw [a3.no d hd a ha h2] at hk;simp at hk
        · rfl
      have hk1:k < (S.getD d []).length:=by rw [a3.many d hd a ha hba] at hk;exact hk
      have hk2:k < (q.getD d []).length:=by rw [hm d hd];exact hk1
      rw [a4 d hd hh a ha hba k hk1,hRw d hd hh i hi k hk2,hSm d hd] at hne
      exact absurd (sym d hd k hk2 _ _ (by omega) (by omega)) hne
  have hdq:∀ d,d < n→Hn w d→dq n t acc obj d=false:=fun d hd hh=>by
    have:=cnt_bad s (f:=ag acc obj d) (fun i hi hi2=>by unfold ag;rw [hac d hd hh i hi hi2,hob d hd hh i hi hi2];rfl)
    exact decide_eq_false (by omega)
  refine ⟨⟨(List.range n).map fun i=>(List.range n).map fun d=>hld t (S.getD d []).length ((R.getD i []).getD d []) ((told.getD d []).getD i []) (dq n t acc obj d) (ac acc d i),(List.range n).map (dq n t acc obj)⟩,v2,T,?_,⟨by simp,by simp,fun i hi=>by rw [map_getD hi];simp,fun i hi d hd=>?_,fun i hi d hd k hk=>?_,fun d hd hh=>?_,fun d hd hh i hi hi2 k hk=>?_⟩,⟨a6.1,fun j hj=>Nat.le_trans (a6.2 j hj) (by omega)⟩,fun hd=>?_⟩
  · unfold vss_Share
    rw [e1,bS]
    simp only
    rw [e2,bS]
    rfl
  · rw [hgen i hi d hd]
    unfold hld
    split
    · rw [List.length_replicate,hm d hd]
    · split
      · rename_i h;rw [a3.many d hd i hi h,hm d hd]
      · exact hR.many i hi d hd
  · rw [hgen i hi d hd]
    have hk1:k < (S.getD d []).length:=by rw [← hm d hd];exact hk
    unfold hld
    split
    · rw [List.getD_eq_getElem?_getD,List.getElem?_replicate,if_pos hk1]
      refine ⟨by simp,fun c hc=>?_⟩
      show (List.replicate (t+1) 0).getD c 0 < _
      rw [List.getD_eq_getElem?_getD,List.getElem?_replicate]
      split
      · exact hp.pos
      · exact hp.pos
    · split
      · rename_i h;exact a3.w d hd i hi h k hk1
      · exact hR.w i hi d hd k hk
  · show ((List.range n).map (dq n t acc obj)).getD d false=false
    rw [map_getD hd];exact hdq d hd hh
  · rw [hgen i hi d hd,hdq d hd hh,hac d hd hh i hi hi2]
    exact hRw d hd hh i hi k hk
  · obtain ⟨z1,z2⟩:=hz1 hd (fun j hj e he=>by rw [hz0 j hj] at he;simp at he)
    exact a7 hd (fun d hdn=>dis_nil fun i hi j=>z1 i hi d hdn j) z2
end Pu
