/- Plain laws of chapter 19: accusations, votes. -/
import Derived.Test.YtahofpgjianhdaaGreatDoorPj4
set_option linter.unusedVariables false
namespace Pu
open Gw Gl Sp
theorem rgO_find {body:Nat→Unit→Option (Out Unit Bool)} {n:Nat} (V:Nat→Prop) (h:∀ k,k < n→(body k ()=some (.fin true)∧V k) ∨ (body k ()=some (.go ())∧¬ V k)) :
    (rgO body n 0 ()=some (.fin true)∧∃ k,k < n∧V k) ∨ (rgO body n 0 ()=some (.go ())∧∀ k,k < n→¬ V k):=by
  obtain ⟨o,e,ho⟩:=rgO_inv (body:=body) (fun k _=>∀ j,j < k→¬ V j) (fun b=>b=true∧∃ k,k < n∧V k) (rem:=n) (k:=0) (s:=()) (fun j hj=>by omega) (fun k s _ hk hI=>by
    have hkn:k < n:=by omega
    rcases h k hkn with ⟨e,hV⟩ | ⟨e,hV⟩
    · exact ⟨_,e,rfl,k,hkn,hV⟩
    · refine ⟨_,e,fun j hj=>?_⟩
      by_cases g:j=k
      · subst g;exact hV
      · exact hI j (by omega))
  cases o with
  | fin b => obtain ⟨h1, h2⟩ := ho
             subst h1
             exact .inl ⟨e,h2⟩
  | go u=>exact .inr ⟨e,fun k hk=>ho k (by omega)⟩
/-- the other members of a pair -/
def oth (x:T_arr2_3) (i:Nat):List Int:=(if x.e0=((i:Nat):Int) then [x.e1] else [])++(if x.e1=((i:Nat):Int) then [x.e0] else [])
theorem others_ok {x:T_arr2_3} {i:Nat}:vss_others x ((i:Nat):Int)=some (oth x i):=by
  unfold vss_others oth
  by_cases g:x.e0=((i:Nat):Int)
  · rw [eT g,cT,if_pos g,appO_some (by simp) (by simp),bS,bS]
    by_cases g2:x.e1=((i:Nat):Int)
    · rw [eT g2,cT,if_pos g2,appO_some (by simp) (by simp),bS];rfl
    · rw [eF g2,cF,if_neg g2];rfl
  · rw [eF g,cF,if_neg g,bS]
    by_cases g2:x.e1=((i:Nat):Int)
    · rw [eT g2,cT,if_pos g2,appO_some (by simp) (by simp),bS]
    · rw [eF g2,cF,if_neg g2];rfl
theorem oth_in {x:T_arr2_3} {i r:Nat} (h:r < (oth x i).length):((oth x i).getD r 0=x.e1∧x.e0=((i:Nat):Int)) ∨ ((oth x i).getD r 0=x.e0∧x.e1=((i:Nat):Int)):=by
  have h2:=getD_in (d:=(0:Int)) h
  generalize (oth x i).getD r 0=y at h2
  unfold oth at h2
  rcases List.mem_append.1 h2 with h3 | h3
  · by_cases g:x.e0=((i:Nat):Int)
    · rw [if_pos g] at h3;exact .inl ⟨by simpa using h3,g⟩
    · rw [if_neg g] at h3;simp at h3
  · by_cases g:x.e1=((i:Nat):Int)
    · rw [if_pos g] at h3;exact .inr ⟨by simpa using h3,g⟩
    · rw [if_neg g] at h3;simp at h3
/-- an answer of dealer d contradicts the rows of party i -/
def Wr (p n:Nat) (z:T_api_VSSState) (i d:Nat) (ans:List (List Nat)):Prop:=∃ q,q < (dis z.Flags n d n).length∧∃ r,r < (oth ((dis z.Flags n d n).getD q ⟨0,0⟩) i).length∧∃ k,k < (z.S.getD d []).length ∧
  pev p (((z.Rows.getD i []).getD d []).getD k []) (((oth ((dis z.Flags n d n).getD q ⟨0,0⟩) i).getD r 0).toNat+1)≠(ans.getD q []).getD k 0
theorem own_ok {p n t:Nat} {c:T_vss_court} (cs:Cs p n t c) {i d k:Nat} (hi:i < n) (hd:d < n) (hk:k < (c.zd.S.getD d []).length):vss_court_own c ((i:Nat):Int) ((d:Nat):Int) ((k:Nat):Int)=some (((c.zd.Rows.getD i []).getD d []).getD k []):=by
  unfold vss_court_own
  rw [idx_getD [] (by omega) (by rw [cs.R.len];omega),bS,Int.toNat_natCast,idx_getD [] (by omega) (by rw [cs.R.row i hi];omega),bS,Int.toNat_natCast,idx_getD [] (by omega) (by rw [cs.R.many i hi d hd];omega),bS,Int.toNat_natCast]
section
variable {p:Nat} [NeZero p] {n t:Nat}
theorem wronged_ok {c:T_vss_court} (cs:Cs p n t c) {i d:Nat} (hi:i < n) (hd:d < n) {ans:List (List Nat)} (h1:ans.length=(dis c.zd.Flags n d n).length) (h2:∀ q,q < ans.length→(ans.getD q []).length=(c.zd.S.getD d []).length) :
    ∃ b,vss_court_wronged c ((i:Nat):Int) ((d:Nat):Int) ans=some b∧(b=true ↔ Wr p n c.zd i d ans):=by
  have hp:Sup p:=by rw [← cs.pw];exact cs.sc.sup
  have hlt:=hp.lt
  have hn:=cs.n7
  have ht:=cs.t2
  unfold vss_court_wronged
  rw [disputed_ok cs.R.len cs.F hn hd,bS,Nat.sub_zero]
  have key:=rgO_find (body:=fun k1 (st:Unit)=>vss_court_wronged_L0 c ((i:Nat):Int) ((d:Nat):Int) ans (dis c.zd.Flags n d n) k1) (n:=(dis c.zd.Flags n d n).length)
    (fun q=>∃ r,r < (oth ((dis c.zd.Flags n d n).getD q ⟨0,0⟩) i).length∧∃ k,k < (c.zd.S.getD d []).length∧pev p (((c.zd.Rows.getD i []).getD d []).getD k []) (((oth ((dis c.zd.Flags n d n).getD q ⟨0,0⟩) i).getD r 0).toNat+1)≠(ans.getD q []).getD k 0) (fun q hq=>by
      have hx:∃ a b,a < n∧b < n∧(dis c.zd.Flags n d n).getD q ⟨0,0⟩=⟨((a:Nat):Int),((b:Nat):Int)⟩:=by
        obtain ⟨a,b,h1,h2,_,h3⟩:=dis_mem (getD_in (d:=(⟨0,0⟩:T_arr2_3)) hq)
        exact ⟨a,b,h1,h2,h3⟩
      unfold vss_court_wronged_L0
      rw [ix ⟨0,0⟩ hq,bS,others_ok,bS,Nat.sub_zero]
      generalize (dis c.zd.Flags n d n).getD q ⟨0,0⟩=x at hx
      obtain ⟨a,b,ha,hb,hx⟩:=hx
      have key2:=rgO_find (body:=fun k2 (st:Unit)=>vss_court_wronged_L1 c ((i:Nat):Int) ((d:Nat):Int) ans q (oth x i) k2) (n:=(oth x i).length)
        (fun r=>∃ k,k < (c.zd.S.getD d []).length∧pev p (((c.zd.Rows.getD i []).getD d []).getD k []) (((oth x i).getD r 0).toNat+1)≠(ans.getD q []).getD k 0) (fun r hr=>by
          have hj:∃ j,j < n∧(oth x i).getD r 0=((j:Nat):Int):=by
            rcases oth_in hr with ⟨e,_⟩ | ⟨e,_⟩
            · exact ⟨b,hb,by rw [e,hx]⟩
            · exact ⟨a,ha,by rw [e,hx]⟩
          unfold vss_court_wronged_L1
          rw [ix 0 hr,bS,ix [] (by omega),bS,Nat.sub_zero,h2 q (by omega)]
          generalize (oth x i).getD r 0=y at hj
          obtain ⟨j,hjn,rfl⟩:=hj
          have key3:=rgO_find (body:=fun k3 (st:Unit)=>vss_court_wronged_L2 c ((i:Nat):Int) ((d:Nat):Int) ((j:Nat):Int) (ans.getD q []) k3) (n:=(c.zd.S.getD d []).length)
            (fun k=>pev p (((c.zd.Rows.getD i []).getD d []).getD k []) (((j:Nat):Int).toNat+1)≠(ans.getD q []).getD k 0) (fun k hk=>by
              obtain ⟨w1,w2⟩:=cs.R.w i hi d hd k hk
              unfold vss_court_wronged_L2
              rw [ix 0 (by rw [h2 q (by omega)];exact hk),bS,own_ok cs hi hd hk,bS,at_ok (by omega),bS,cs.P,(pev_ok hp w2 (by omega) (by omega)).1,bS,Int.toNat_natCast]
              by_cases g:pev p (((c.zd.Rows.getD i []).getD d []).getD k []) (j+1)=(ans.getD q []).getD k 0
              · rw [qF (by omega),cF];exact .inr ⟨rfl,fun h=>h g⟩
              · rw [qT (by omega),cT];exact .inl ⟨rfl,g⟩)
          rcases key3 with ⟨e,h⟩ | ⟨e,h⟩
          · rw [e,bS,oF];exact .inl ⟨rfl,h⟩
          · rw [e,bS,oG];exact .inr ⟨rfl,fun ⟨k,hk,hV⟩=>h k hk hV⟩)
      rcases key2 with ⟨e,h⟩ | ⟨e,h⟩
      · rw [e,bS,oF];exact .inl ⟨rfl,h⟩
      · rw [e,bS,oG];exact .inr ⟨rfl,fun ⟨r,hr,hV⟩=>h r hr hV⟩)
  rcases key with ⟨e,h⟩ | ⟨e,h⟩
  · rw [e,bS,oF];exact ⟨true,rfl,fun _=>h,fun _=>rfl⟩
  · rw [e,bS,oG];exact ⟨false,rfl,fun h'=>(by cases h'),fun ⟨q,hq,hV⟩=>absurd hV (h q hq)⟩
end
/-- a vote, whatever the parties say -/
def voteG (c:T_vss_court) (says:Nat→Nat→Option Bool):Option ((List (List Bool)) × Int × (List (List T_api_Event))) :=
  vss_court_parties c >>= fun r1 =>
  ckN (max 0 (r1).toNat) >>= fun u1 =>
  rgS (fun k1 (st:(List (List Nat)))=>rgS (fun k2 (st:(List Nat))=>says k1 k2 >>= fun r4=>bif r4 then appO 8 st ([1]:List Nat) >>= fun l5=>some l5 else appO 8 st ([0]:List Nat) >>= fun l6=>some l6) ((max 0 (r1).toNat) - 0) 0 ([]:List Nat) >>= fun l4=>appO 24 st ([l4]:List (List Nat)) >>= fun l7=>some l7) ((max 0 (r1).toNat) - 0) 0 ([]:List (List Nat)) >>= fun l2 =>
  network_Net_Broadcast c.zn l2 >>= fun r5 =>
  vss_court_parties (⟨(⟨c.zn.zw,r5.2.1,r5.2.2,c.zn.ztapes⟩:T_network_Net),c.zp,c.zd,c.zaccuses,c.zobjects,c.ztold⟩:T_vss_court) >>= fun r6 =>
  mkO 24 r6 r6 ([]:List Bool) >>= fun l8 =>
  rgS (fun k3 (st:(List (List Bool)))=>vss_court_vote_vss_Complete_1_al_L2 r5 r6 k3 st) (l8.length - 0) 0 l8 >>= fun l10 =>
  some (l10,r5.2.1,r5.2.2)
theorem vote1 (c:T_vss_court) (x:List (List (List Nat))):vss_court_vote_vss_Complete_1_al c x=voteG c (fun i d=>vss_Complete_1 ((i:Nat):Int) ((d:Nat):Int) c x):=rfl
theorem vote2 (c:T_vss_court):vss_court_vote_vss_court_objecting_al c=voteG c (fun i d=>vss_court_objecting c ((i:Nat):Int) ((d:Nat):Int)):=rfl
/-- what has been voted is square -/
def Ac (n:Nat) (a:List (List Bool)):Prop:=a.length=n∧∀ d,d < n→(a.getD d []).length=n
theorem vote_ok {c:T_vss_court} {n t:Nat} (s:Sc c.zn.zw n t) (hn:n≤7) (hR:c.zd.Rows.length=n) {says:Nat→Nat→Option Bool} {b:Nat→Nat→Bool} (hs:∀ i,i < n→∀ d,d < n→says i d=some (b i d)) {B:Nat} (hv:VB n B c.zn.zviews) (hB:B≤500) (hr:0≤c.zn.zround∧c.zn.zround≤1000) :
    ∃ (acc:List (List Bool)) (views:List (List T_api_Event)),voteG c says=some (acc,c.zn.zround+1,views)∧Ac n acc∧(∀ i,i < n→Hn c.zn.zw i→∀ d,d < n→(acc.getD d []).getD i false=b i d)∧VB n (B+n) views ∧
      (c.zn.zw.Deviations=[]→(∀ i,i < n→∀ d,d < n→b i d=false)→Zv n c.zn.zviews→Zv n views) ∧
      ∃ h,adversary_ApplyToBroadcasts c.zn.zw c.zn.zround ((List.range n).map fun i=>(List.range n).map fun d=>if b i d then 1 else 0)=some h∧(∀ d,d < n→∀ i,i < n→(acc.getD d []).getD i false=((((h.getD i []).getD d 0:Nat):Int) != 0))∧∀ j,j < n→views.getD j []=c.zn.zviews.getD j []++evB c.zn.zround h j n:=by
  have hlt:=s.sup.lt
  have hmx:max 0 ((n:Nat):Int).toNat=n:=by simp
  have hbl:Bl c.zn.zw.S.P n 7 ((List.range n).map fun i=>(List.range n).map fun d=>if b i d then 1 else 0):=⟨by simp,fun i hi=>by
    rw [map_getD hi]
    exact ⟨Lt_map fun k _=>(by split <;> omega),by simp;exact hn⟩⟩
  obtain ⟨heard,views,e3,b1,b2,b3,b4,b5,b6⟩:=bc_ok s hbl (by omega) hv hB hr
  have hsay:∀ i,i < n→∀ d,d < n→((((List.range n).map fun i=>(List.range n).map fun d=>if b i d then 1 else 0).getD i []).getD d 0)=if b i d then 1 else 0:=fun i hi d hd=>by rw [map_getD hi,map_getD hd]
  refine ⟨(List.range n).map fun d=>(List.range n).map fun i=>((((heard.getD i []).getD d 0:Nat):Int) != 0),views,?_,⟨by simp,fun d hd=>by rw [map_getD hd];simp⟩,fun i hi hh d hd=>?_,b3,fun h1 h2 h3=>b4 h1 (fun i hi k=>?_) h3,heard,b5,fun d hd i hi=>by rw [map_getD hd,map_getD hi],b6⟩
  · have e1:rgS (fun k1 (st:(List (List Nat)))=>rgS (fun k2 (st:(List Nat))=>says k1 k2 >>= fun r4=>bif r4 then appO 8 st ([1]:List Nat) >>= fun l5=>some l5 else appO 8 st ([0]:List Nat) >>= fun l6=>some l6) n 0 ([]:List Nat) >>= fun l4=>appO 24 st ([l4]:List (List Nat)) >>= fun l7=>some l7) n 0 ([]:List (List Nat))=some ((List.range n).map fun i=>(List.range n).map fun d=>if b i d then 1 else 0):=rgS_tab' _ (fun i l hi hl=>by
      rw [rgS_tab' (fun d=>if b i d then 1 else 0) (fun d l2 hd hl2=>by
        rw [hs i hi d hd,bS]
        cases b i d
        · rw [cF,appO_some (by simp only [List.length_cons,List.length_nil];omega) (by simp only [List.length_cons,List.length_nil];omega),bS];rfl
        · rw [cT,appO_some (by simp only [List.length_cons,List.length_nil];omega) (by simp only [List.length_cons,List.length_nil];omega),bS];rfl),bS,appO_some (by simp only [List.length_cons,List.length_nil];omega) (by simp only [List.length_cons,List.length_nil];omega),bS])
    unfold voteG vss_court_parties
    rw [hR,bS,hmx,ckN_some (by omega),bS,Nat.sub_zero,e1,bS,e3,bS]
    simp only
    rw [hR,bS,mkO_some (by omega) (by omega) (by omega) (by omega),bS,Int.toNat_natCast,List.length_replicate,Nat.sub_zero,rgS_rows (fun d=>(List.range n).map fun i=>((((heard.getD i []).getD d 0:Nat):Int) != 0)) (fun d l hd hl h0=>by
      unfold vss_court_vote_vss_Complete_1_al_L2
      rw [hmx,ckN_some (by omega),bS,Nat.sub_zero,rgS_grow (fun i=>((((heard.getD i []).getD d 0:Nat):Int) != 0)) hd hl (fun q l' hq hl' hw=>by
        rw [h0] at hw
        simp only [List.length_nil] at hw
        obtain ⟨r,er,r1,r2⟩:=resize_ok (l:=heard.getD q []) (m:=n) (by omega)
        unfold vss_court_vote_vss_Complete_1_al_L3
        simp only
        rw [Nat.zero_add,ix [] (by omega),bS,ix [] (by rw [b1.len];exact hq),bS,er,bS,ix 0 (by omega),bS,r2 d hd,appO_some (by simp only [List.length_cons,List.length_nil];omega) (by simp only [List.length_cons,List.length_nil];omega),bS,bS]),bS,h0,List.nil_append]),bS]
  · rw [map_getD hd,map_getD hi,b2 i hi hh,hsay i hi d hd]
    cases b i d <;> rfl
  · by_cases g:k < n
    · rw [hsay i hi k g,h2 i hi k g];rfl
    · rw [map_getD hi];exact getD_ge (by simp;omega)
end Pu
