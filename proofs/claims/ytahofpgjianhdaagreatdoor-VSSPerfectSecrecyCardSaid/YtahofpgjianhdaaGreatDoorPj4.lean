/- Plain laws of chapter 19: the disputed pairs, the dealers' answers. -/
import Derived.Test.YtahofpgjianhdaaGreatDoorPj3
set_option linter.unusedVariables false
namespace Pu
open Gw Gl Sp
theorem rgS_filter {α:Type} {body:Nat→List α→Option (List α)} (c:Nat→Bool) (x:Nat→α) {l:List α}:∀ {n:Nat},(∀ j l',j < n→l'.length≤l.length+j→body j l'=some (if c j then l'++[x j] else l'))→rgS body n 0 l=some (l++((List.range n).filter c).map x):=fun {n} h=>by
  obtain ⟨r,e,h2⟩:=rgS_inv (body:=body) (fun k r=>r=l++((List.range k).filter c).map x) (rem:=n) (k:=0) (s:=l) (by simp) (fun j r _ hj hr=>by
    have hl:r.length≤l.length+j:=by
      rw [hr,List.length_append,List.length_map]
      have:=List.length_filter_le c (List.range j)
      rw [List.length_range] at this
      omega
    refine ⟨_,h j r (by omega) hl,?_⟩
    rw [hr,List.range_succ,List.filter_append,List.map_append]
    cases hc:c j
    · simp [hc]
    · simp [hc])
  rw [e,h2,Nat.zero_add]
theorem flat_le {α:Type} {v:Nat→List α} {w:Nat}:∀ {n:Nat},(∀ j,j < n→(v j).length≤w)→((List.range n).map v).flatten.length≤n*w
  | 0,_=>by simp
  | n+1,h=>by
    rw [List.range_succ,List.map_append,List.flatten_append,List.length_append,Nat.add_mul]
    have:=flat_le (v:=v) (w:=w) (n:=n) (fun j hj=>h j (by omega))
    have:=h n (by omega)
    have e:(List.map v [n]).flatten=v n:=by simp
    rw [e];omega
/-- the disputed pairs of dealer d among the parties before k -/
def dis (F:List (List (List Nat))) (n d k:Nat):List T_arr2_3:=((List.range k).map fun i=>((List.range n).filter fun j=>decide ((((F.getD i []).getD d []).getD j 0)≠0)).map fun j=>(⟨((i:Nat):Int),((j:Nat):Int)⟩:T_arr2_3)).flatten
theorem dis_len {F:List (List (List Nat))} {n d k:Nat}:(dis F n d k).length≤k*n:=flat_le fun i _=>by
  rw [List.length_map]
  have:=List.length_filter_le (fun j=>decide ((((F.getD i []).getD d []).getD j 0)≠0)) (List.range n)
  rw [List.length_range] at this
  exact this
theorem dis_mem {F:List (List (List Nat))} {n d k:Nat} {x:T_arr2_3} (h:x ∈ dis F n d k):∃ i j,i < k∧j < n∧((F.getD i []).getD d []).getD j 0≠0∧x=⟨((i:Nat):Int),((j:Nat):Int)⟩:=by
  unfold dis at h
  obtain ⟨l,hl,hx⟩:=List.mem_flatten.1 h
  obtain ⟨i,hi,rfl⟩:=List.mem_map.1 hl
  obtain ⟨j,hj,rfl⟩:=List.mem_map.1 hx
  obtain ⟨h1,h2⟩:=List.mem_filter.1 hj
  exact ⟨i,j,by simpa using hi,by simpa using h1,of_decide_eq_true h2,rfl⟩
theorem getD_in {α:Type} {l:List α} {q:Nat} {d:α} (h:q < l.length):l.getD q d ∈ l:=by
  rw [List.getD_eq_getElem?_getD,List.getElem?_eq_getElem h];exact List.getElem_mem h
theorem dis_nil {F:List (List (List Nat))} {n d k:Nat} (h:∀ i,i < k→∀ j,((F.getD i []).getD d []).getD j 0=0):dis F n d k=[]:=by
  apply List.eq_nil_iff_forall_not_mem.2
  intro x hx
  obtain ⟨i,j,hi,_,h1,_⟩:=dis_mem hx
  exact h1 (h i hi j)
theorem disputed_ok {c:T_vss_court} {n d:Nat} (hR:c.zd.Rows.length=n) (f:Fl n c.zd.Flags) (hn:n≤7) (hd:d < n):vss_court_disputed c ((d:Nat):Int)=some (dis c.zd.Flags n d n):=by
  have hmx:max 0 ((n:Nat):Int).toNat=n:=by simp
  have hnn:n*n≤7*7:=Nat.mul_le_mul hn hn
  unfold vss_court_disputed vss_court_parties
  rw [hR,bS,hmx,ckN_some (by omega),bS,Nat.sub_zero]
  have e:rgS (fun k1 (st:(List T_arr2_3))=>vss_court_disputed_L0 c ((d:Nat):Int) k1 st) n 0 ([]:List T_arr2_3)=some (dis c.zd.Flags n d n):=rgS_flat (fun i=>((List.range n).filter fun j=>decide ((((c.zd.Flags.getD i []).getD d []).getD j 0)≠0)).map fun j=>(⟨((i:Nat):Int),((j:Nat):Int)⟩:T_arr2_3)) (fun i l hi hl=>by
    have hll:l.length≤i*n:=by rw [hl];exact dis_len (F:=c.zd.Flags) (d:=d)
    have hin:i*n≤n*n:=Nat.mul_le_mul_right _ (by omega)
    have hw:=f.w i hi d hd
    unfold vss_court_disputed_L0
    rw [ix [] (by rw [f.len];exact hi),bS,idx_getD [] (by omega) (by rw [f.row i hi];omega),bS,Int.toNat_natCast,hw,Nat.sub_zero,rgS_filter (fun j=>decide ((((c.zd.Flags.getD i []).getD d []).getD j 0)≠0)) (fun j=>(⟨((i:Nat):Int),((j:Nat):Int)⟩:T_arr2_3)) (fun j l' hj hl'=>by
      unfold vss_court_disputed_L1
      rw [ix 0 (by omega),bS]
      by_cases g:((c.zd.Flags.getD i []).getD d []).getD j 0=0
      · rw [qF (by omega),cF,if_neg (fun h=>(of_decide_eq_true h) g)]
      · rw [qT (by omega),cT,appO_some (by simp only [List.length_cons,List.length_nil];omega) (by simp only [List.length_cons,List.length_nil];omega),bS,if_pos (decide_eq_true g)]),bS])
  rw [e,bS]
theorem at_ok {i:Nat} (h:i≤1000):vss_at ((i:Nat):Int)=some (i+1):=by
  unfold vss_at
  have hu:toU (((i:Nat):Int)+1)=i+1:=by unfold toU;omega
  rw [addI_some (by omega) (by omega),bS,bS,hu]
theorem takeh_ok {l:List Nat} {m:Nat} (hl:l.length≤1000) (hm:m≤1000):vss_hearing_take ⟨l⟩ ((m:Nat):Int)=some ((List.range m).map fun c=>l.getD c 0,l.drop m):=by
  obtain ⟨r,er,r1,r2⟩:=resize_ok (l:=l) (m:=m) hm
  have hr:r=(List.range m).map fun c=>l.getD c 0:=by
    refine List.ext_getElem? fun i=>?_
    by_cases g:i < m
    · rw [ix 0 (by omega),r2 i g,List.getElem?_map,List.getElem?_range g];rfl
    · rw [List.getElem?_eq_none (by omega),List.getElem?_eq_none (by simp;omega)]
  have hmin:min ((m:Nat):Int) ((l.length:Nat):Int)=((min m l.length:Nat):Int):=by omega
  unfold vss_hearing_take
  simp only
  rw [er,bS,bS,hmin,cutO_some (by omega) (by omega) (by omega),bS,hr]
  simp only [Int.toNat_natCast]
  rw [List.take_of_length_le (by rw [List.length_drop];omega)]
  by_cases g:m≤l.length
  · rw [Nat.min_eq_left g]
  · rw [Nat.min_eq_right (by omega),List.drop_eq_nil_of_le (Nat.le_refl _),List.drop_eq_nil_of_le (by omega)]
theorem got_succ {l:List Nat} {w q:Nat}:got l w q++[(List.range w).map fun c=>(l.drop (q*w)).getD c 0]=got l w (q+1):=by
  unfold got
  rw [List.range_succ,List.map_append]
  congr 1
  simp only [List.map_cons,List.map_nil]
  congr 1
  refine List.map_congr_left fun k _=>?_
  rw [List.getD_eq_getElem?_getD,List.getElem?_drop,← List.getD_eq_getElem?_getD]
/-- the value at a pair -/
def evM (p:Nat) (M:List (List Nat)) (x:T_arr2_3):Nat:=pev p (Rw p M (x.e0.toNat+1)) (x.e1.toNat+1)
/-- what a dealer answers -/
def say1 (p:Nat) (S:List (List (List Nat))) (l:List T_arr2_3):List Nat:=((List.range l.length).map fun q=>(List.range S.length).map fun k=>evM p (S.getD k []) (l.getD q ⟨0,0⟩)).flatten
/-- the court has a sound state -/
structure Cs (p n t:Nat) (c:T_vss_court):Prop where
  P:c.zp=p
  pw:c.zn.zw.S.P=p
  sc:Sc c.zn.zw n t
  n7:n≤7
  t2:t≤2
  S:Ss p n t c.zd.S
  R:Rr p n t (fun d=>(c.zd.S.getD d []).length) c.zd.Rows
  F:Fl n c.zd.Flags
section
variable {p:Nat} [NeZero p] {n t:Nat}
theorem bev_ok (hp:Sup p) {mm:Nat} {M:List (List Nat)} {x y:Nat} (hM:Mat p mm mm M) (hm:mm≤10) (hx:x < p) (hy:y < p):bivariate_Eval p M x y=some (pev p (Rw p M x) y)∧pev p (Rw p M x) y < p:=by
  obtain ⟨e,_,hl,ht,_⟩:=Rw_ok hp hM hm hx
  obtain ⟨e2,h2,_⟩:=pev_ok hp ht hy (by omega)
  unfold bivariate_Eval
  rw [e,bS,e2,bS]
  exact ⟨rfl,h2⟩
theorem answers_ok {c:T_vss_court} (cs:Cs p n t c) {B:Nat} (hv:VB n B c.zn.zviews) (hB:B≤500) (hr:0≤c.zn.zround∧c.zn.zround≤1000) :
    ∃ (heard:List (List Nat)) (views:List (List T_api_Event)),vss_court_answers c=some ((List.range n).map fun d=>got (heard.getD d []) (c.zd.S.getD d []).length (dis c.zd.Flags n d n).length,c.zn.zround+1,views)∧Bl p n 98 heard ∧
      (∀ d,d < n→Hn c.zn.zw d→heard.getD d []=say1 p (c.zd.S.getD d []) (dis c.zd.Flags n d n))∧VB n (B+n) views ∧
      (c.zn.zw.Deviations=[]→(∀ d,d < n→dis c.zd.Flags n d n=[])→Zv n c.zn.zviews→Zv n views) ∧
      adversary_ApplyToBroadcasts c.zn.zw c.zn.zround ((List.range n).map fun d=>say1 p (c.zd.S.getD d []) (dis c.zd.Flags n d n))=some heard∧∀ j,j < n→views.getD j []=c.zn.zviews.getD j []++evB c.zn.zround heard j n:=by
  have hp:Sup p:=by rw [← cs.pw];exact cs.sc.sup
  have hlt:=hp.lt
  have hn:=cs.n7
  have ht:=cs.t2
  have hRl:c.zd.Rows.length=n:=cs.R.len
  have hmx:max 0 ((n:Nat):Int).toNat=n:=by simp
  have hnn:n*n≤7*7:=Nat.mul_le_mul hn hn
  have hin:∀ d q,q < (dis c.zd.Flags n d n).length→∃ i j,i < n∧j < n∧(dis c.zd.Flags n d n).getD q ⟨0,0⟩=⟨((i:Nat):Int),((j:Nat):Int)⟩:=fun d q hq=>by
    obtain ⟨i,j,h1,h2,_,h3⟩:=dis_mem (getD_in (d:=(⟨0,0⟩:T_arr2_3)) hq)
    exact ⟨i,j,h1,h2,h3⟩
  have hsl:∀ d,d < n→Lt p (say1 p (c.zd.S.getD d []) (dis c.zd.Flags n d n))∧(say1 p (c.zd.S.getD d []) (dis c.zd.Flags n d n)).length≤98:=fun d hd=>by
    have hm:=cs.S.many d hd
    have hdl:=dis_len (F:=c.zd.Flags) (n:=n) (d:=d) (k:=n)
    refine ⟨flat_lt fun q hq=>Lt_map fun k hk=>?_,?_⟩
    · obtain ⟨i,j,hi,hj,e⟩:=hin d q hq
      rw [e]
      exact (bev_ok hp (cs.S.mat d hd k hk) (by omega) (by show i+1 < p;omega) (by show j+1 < p;omega)).2
    · have:=flat_le (n:=(dis c.zd.Flags n d n).length) (w:=2) (v:=fun q=>(List.range (c.zd.S.getD d []).length).map fun k=>evM p ((c.zd.S.getD d []).getD k []) ((dis c.zd.Flags n d n).getD q ⟨0,0⟩)) (fun q _=>by simp;exact hm)
      exact Nat.le_trans this (by omega)
  have e1:rgS (fun k1 (st:(List (List Nat)))=>vss_court_answers_L0 c k1 st) n 0 ([]:List (List Nat))=some ((List.range n).map fun d=>say1 p (c.zd.S.getD d []) (dis c.zd.Flags n d n)):=rgS_tab' _ (fun d l hd hl=>by
    have hm:=cs.S.many d hd
    have hdl:=dis_len (F:=c.zd.Flags) (n:=n) (d:=d) (k:=n)
    unfold vss_court_answers_L0
    rw [disputed_ok hRl cs.F hn hd,bS,Nat.sub_zero]
    have e2:rgS (fun k2 (st:(List Nat))=>vss_court_answers_L1 c d (dis c.zd.Flags n d n) k2 st) (dis c.zd.Flags n d n).length 0 ([]:List Nat)=some (say1 p (c.zd.S.getD d []) (dis c.zd.Flags n d n)):=rgS_flat (fun q=>(List.range (c.zd.S.getD d []).length).map fun k=>evM p ((c.zd.S.getD d []).getD k []) ((dis c.zd.Flags n d n).getD q ⟨0,0⟩)) (fun q l' hq hl'=>by
      have hll:l'.length≤q*2:=by rw [hl'];exact flat_le fun _ _=>by simp;exact hm
      obtain ⟨i,j,hi,hj,e⟩:=hin d q hq
      unfold vss_court_answers_L1
      rw [ix ⟨0,0⟩ hq,bS,ix [] (by rw [cs.S.len];exact hd),bS,Nat.sub_zero,rgS_tabF (fun k=>evM p ((c.zd.S.getD d []).getD k []) ((dis c.zd.Flags n d n).getD q ⟨0,0⟩)) (fun k l2 hk hl2=>by
        have hl3:l2.length≤200:=by rw [hl2,List.length_append,List.length_map,List.length_range];omega
        unfold vss_court_answers_L2
        rw [ix [] hk,bS,e]
        simp only
        rw [at_ok (by omega),bS,at_ok (by omega),bS,cs.P,(bev_ok hp (cs.S.mat d hd k hk) (by omega) (by omega) (by omega)).1,bS,appO_some (by simp only [List.length_cons,List.length_nil];omega) (by simp only [List.length_cons,List.length_nil];omega),bS]
        rfl),bS])
    rw [e2,bS,appO_some (by simp only [List.length_cons,List.length_nil];omega) (by simp only [List.length_cons,List.length_nil];omega),bS])
  have hbl:Bl c.zn.zw.S.P n 98 ((List.range n).map fun d=>say1 p (c.zd.S.getD d []) (dis c.zd.Flags n d n)):=⟨by simp,fun d hd=>by rw [map_getD hd,cs.pw];exact hsl d hd⟩
  obtain ⟨heard,views,e3,b1,b2,b3,b4,b5,b6⟩:=bc_ok cs.sc hbl (by omega) hv hB hr
  rw [cs.pw] at b1
  refine ⟨heard,views,?_,b1,fun d hd hh=>by rw [b2 d hd hh,map_getD hd],b3,fun h1 h2 h3=>b4 h1 (fun d hd k=>by rw [map_getD hd,h2 d hd];simp [say1]) h3,b5,b6⟩
  unfold vss_court_answers vss_court_parties
  rw [hRl,bS,hmx,ckN_some (by omega),bS,Nat.sub_zero,e1,bS,e3,bS]
  simp only
  rw [hRl,bS,hmx,ckN_some (by omega),bS,Nat.sub_zero,rgS_tab' (fun d=>got (heard.getD d []) (c.zd.S.getD d []).length (dis c.zd.Flags n d n).length) (fun d l hd hl=>by
    have hm:=cs.S.many d hd
    have hdl:=dis_len (F:=c.zd.Flags) (n:=n) (d:=d) (k:=n)
    have hhl:=(b1.w d hd).2
    unfold vss_court_answers_L3
    simp only
    rw [ix [] (by rw [b1.len];exact hd),bS,disputed_ok (c:=⟨⟨c.zn.zw,c.zn.zround+1,views,c.zn.ztapes⟩,c.zp,c.zd,c.zaccuses,c.zobjects,c.ztold⟩) hRl cs.F hn hd,bS,Nat.sub_zero]
    obtain ⟨⟨l1,l2⟩,e4,g1,g2⟩:=rgS_inv (body:=fun k5 (st:(List Nat) × (List (List Nat)))=>vss_court_answers_L4 c (heard,c.zn.zround+1,views) d k5 st.1 st.2) (rem:=(dis c.zd.Flags n d n).length) (k:=0) (s:=(heard.getD d [],([]:List (List Nat))))
      (fun q st=>st.1=(heard.getD d []).drop (q*(c.zd.S.getD d []).length)∧st.2=got (heard.getD d []) (c.zd.S.getD d []).length q) ⟨by simp,rfl⟩ (fun q st _ hq ⟨g1,g2⟩=>by
        obtain ⟨l1,l2⟩:=st
        simp only at g1 g2
        subst g1;subst g2
        unfold vss_court_answers_L4 vss_court_polys
        simp only
        rw [idx_getD [] (by omega) (by rw [cs.S.len];omega),bS,bS,Int.toNat_natCast,takeh_ok (by rw [List.length_drop];omega) (by omega),bS]
        simp only
        rw [appO_some (by rw [got_len];simp only [List.length_cons,List.length_nil];omega) (by rw [got_len];simp only [List.length_cons,List.length_nil];omega),bS]
        refine ⟨_,rfl,?_,?_⟩
        · show ((heard.getD d []).drop _).drop _=_
          rw [List.drop_drop,Nat.add_mul,Nat.one_mul]
        · exact got_succ)
    rw [Nat.zero_add] at g2
    simp only at g2
    rw [e4,bS]
    simp only
    rw [g2,appO_some (by simp only [List.length_cons,List.length_nil];omega) (by simp only [List.length_cons,List.length_nil];omega),bS]),bS]
end
/-- an honest dealer's answers -/
theorem say1_get {p:Nat} {S:List (List (List Nat))} {l:List T_arr2_3} {q k:Nat} (hq:q < l.length) (hk:k < S.length):((got (say1 p S l) S.length l.length).getD q []).getD k 0=evM p (S.getD k []) (l.getD q ⟨0,0⟩):=by
  rw [got_in hq hk]
  unfold say1
  rw [flat_get (w:=S.length) (fun j _=>by simp) hq hk,map_getD hk]
end Pu
