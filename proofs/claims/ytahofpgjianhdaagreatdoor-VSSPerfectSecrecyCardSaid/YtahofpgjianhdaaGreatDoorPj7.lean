/- Plain laws of chapter 19: the second half. -/
import Derived.Test.YtahofpgjianhdaaGreatDoorPj6
set_option linter.unusedVariables false
namespace Pu
open Gw Gl Sp
theorem rgS_put19 {α:Type} {body:Nat→List α→Option (List α)} (v:Nat→α) {n:Nat} {l0:List α} (h0:l0.length=n) (h:∀ j l,j < n→l.length=n→body j l=some (l.set j (v j))):rgS body n 0 l0=some ((List.range n).map v):=by
  obtain ⟨r,e,h1,h2⟩:=rgS_inv (body:=body) (fun k l=>l.length=n∧∀ i,i < k→l[i]?=some (v i)) (rem:=n) (k:=0) (s:=l0) ⟨h0,fun i hi=>by omega⟩ (fun j l _ hj ⟨h1,h2⟩=>by
    refine ⟨_,h j l (by omega) h1,by rw [List.length_set];exact h1,fun i hi=>?_⟩
    rw [List.getElem?_set]
    by_cases g:j=i
    · subst g;rw [if_pos rfl,if_pos (by omega)]
    · rw [if_neg g];exact h2 i (by omega))
  rw [Nat.zero_add] at h2
  rw [e]
  congr 1
  refine List.ext_getElem (by simp [h1]) fun i h3 h4=>?_
  have:=h2 i (by omega)
  rw [List.getElem?_eq_getElem h3] at this
  rw [Option.some.inj this];simp
/-- who is against dealer d -/
def ag (acc obj:List (List Bool)) (d i:Nat):Bool:=ac acc d i || ac obj d i
/-- dealer d is disqualified -/
def dq (n t:Nat) (acc obj:List (List Bool)) (d:Nat):Bool:=decide (t < cnt (ag acc obj d) n)
theorem out_ok {c:T_vss_court} {n t d:Nat} (hR:c.zd.Rows.length=n) (hn:n≤7) (hT:c.zn.zw.S.T=(t:Int)) (ha:Ac n c.zaccuses) (ho:Ac n c.zobjects) (hd:d < n):vss_court_out c ((d:Nat):Int)=some (dq n t c.zaccuses c.zobjects d):=by
  have hmx:max 0 ((n:Nat):Int).toNat=n:=by simp
  unfold vss_court_out vss_court_parties network_Net_Scenario
  rw [hR,bS,hmx,ckN_some (by omega),bS,Nat.sub_zero]
  obtain ⟨x,e,hx⟩:=rgS_inv (body:=fun k1 (st:Int)=>vss_court_out_L0 c ((d:Nat):Int) k1 st) (rem:=n) (k:=0) (s:=((0:Nat):Int))
    (fun k s=>s=((cnt (ag c.zaccuses c.zobjects d) k:Nat):Int)) (by simp [cnt]) (fun k s _ hk hs=>by
      have hkn:k < n:=by omega
      have hc:=cnt_le (f:=ag c.zaccuses c.zobjects d) (a:=k)
      subst hs
      unfold vss_court_out_L0
      rw [idx_getD [] (by omega) (by rw [ha.1];omega),bS,Int.toNat_natCast,ix false (by rw [ha.2 d hd];exact hkn),bS]
      show ∃ s',(bif ac c.zaccuses d k then _ else _)=some s'∧_
      cases h1:ac c.zaccuses d k
      · rw [cF,idx_getD [] (by omega) (by rw [ho.1];omega),bS,Int.toNat_natCast,ix false (by rw [ho.2 d hd];exact hkn),bS]
        show ∃ s',(bif ac c.zobjects d k then _ else _)=some s'∧_
        cases h2:ac c.zobjects d k
        · rw [cF]
          exact ⟨_,rfl,by rw [cnt_succ];simp [ag,h1,h2]⟩
        · rw [cT,addI_some (by omega) (by omega),bS]
          exact ⟨_,rfl,by rw [cnt_succ];simp [ag,h1,h2]⟩
      · rw [cT,addI_some (by omega) (by omega),bS]
        exact ⟨_,rfl,by rw [cnt_succ];simp [ag,h1]⟩)
  rw [Nat.zero_add] at hx
  subst hx
  rw [e,bS,bS,hT]
  congr 1
  exact decide_eq_decide.2 (by omega)
/-- what a party finally holds -/
def hld (t m:Nat) (row told:List (List Nat)) (out acc:Bool):List (List Nat):=if out then List.replicate m (List.replicate (t+1) 0) else if acc then told else row
theorem held_ok {c:T_vss_court} {p n t i d:Nat} (cs:Cs p n t c) (ha:Ac n c.zaccuses) (td:Td p n t (fun d=>(c.zd.S.getD d []).length) c.zaccuses c.ztold) (hi:i < n) (hd:d < n) (out:Bool) :
    vss_court_held c ((i:Nat):Int) ((d:Nat):Int) out=some (hld t (c.zd.S.getD d []).length ((c.zd.Rows.getD i []).getD d []) ((c.ztold.getD d []).getD i []) out (ac c.zaccuses d i)):=by
  have hn:=cs.n7
  have ht:=cs.t2
  have hm:=cs.S.many d hd
  have et:((t:Nat):Int)+1=((t+1:Nat):Int):=by omega
  unfold vss_court_held
  cases out
  · rw [cF,idx_getD [] (by omega) (by rw [ha.1];omega),bS,Int.toNat_natCast,idx_getD false (by omega) (by rw [ha.2 d hd];omega),bS,Int.toNat_natCast]
    show (bif ac c.zaccuses d i then _ else _)=_
    cases hb:ac c.zaccuses d i
    · rw [cF,idx_getD [] (by omega) (by rw [cs.R.len];omega),bS,Int.toNat_natCast,idx_getD [] (by omega) (by rw [cs.R.row i hi];omega),bS,Int.toNat_natCast,clones_ok (by rw [cs.R.many i hi d hd];omega),bS]
      rfl
    · rw [cT,idx_getD [] (by omega) (by rw [td.len];omega),bS,Int.toNat_natCast,idx_getD [] (by omega) (by rw [td.row d hd];omega),bS,Int.toNat_natCast]
      rfl
  · unfold vss_court_polys
    rw [cT,idx_getD [] (by omega) (by rw [cs.S.len];omega),bS,bS]
    simp only [Int.toNat_natCast]
    rw [mkO_some (by omega) (by omega) (by omega) (by omega),bS,Int.toNat_natCast,List.length_replicate,Nat.sub_zero,rgS_put19 (fun _=>List.replicate (t+1) 0) (by simp) (fun j l hj hl=>by
      unfold vss_court_held_L0 network_Net_Scenario
      rw [bS,cs.sc.T,addI_some (by omega) (by omega),bS,et,mkO_some (by omega) (by omega) (by omega) (by omega),bS,ix [] (by omega),bS,bS,Int.toNat_natCast]),bS]
    unfold hld
    rw [if_pos rfl]
    congr 1
    refine List.ext_getElem (by simp) fun a h1 h2=>by simp
/-- what has been said in the second half -/
structure Tr2 (w:T_api_Scenario) (n t:Nat) (z:T_api_VSSState) (round:Int) (v0 views:List (List T_api_Event)) (ans:List (List (List Nat))) (told:List (List (List (List Nat)))) (acc obj:List (List Bool)) (h3 h4 h5 h6:List (List Nat)) (b1 b2:Nat→Nat→Bool):Prop where
  a3:adversary_ApplyToBroadcasts w round ((List.range n).map fun d=>say1 w.S.P (z.S.getD d []) (dis z.Flags n d n))=some h3
  eans:∀ d,d < n→ans.getD d []=got (h3.getD d []) (z.S.getD d []).length (dis z.Flags n d n).length
  eb1:∀ i,i < n→∀ d,d < n→(b1 i d=true ↔ Wr w.S.P n z i d (ans.getD d []))
  a4:adversary_ApplyToBroadcasts w (round+1) ((List.range n).map fun i=>(List.range n).map fun d=>if b1 i d then 1 else 0)=some h4
  eacc:∀ d,d < n→∀ i,i < n→ac acc d i=((((h4.getD i []).getD d 0:Nat):Int) != 0)
  a5:adversary_ApplyToBroadcasts w (round+1+1) ((List.range n).map fun d=>say2 w.S.P n (z.S.getD d []) (ac acc d))=some h5
  etold:∀ d,d < n→∀ a,a < n→(told.getD d []).getD a []=tld (h5.getD d []) (ac acc d) t (z.S.getD d []).length a
  eb2:∀ i,i < n→∀ d,d < n→(b2 i d=true ↔ Ob w.S.P n z.Rows told acc i d)
  a6:adversary_ApplyToBroadcasts w (round+1+1+1) ((List.range n).map fun i=>(List.range n).map fun d=>if b2 i d then 1 else 0)=some h6
  eobj:∀ d,d < n→∀ i,i < n→ac obj d i=((((h6.getD i []).getD d 0:Nat):Int) != 0)
  v:∀ j,j < n→views.getD j []=v0.getD j []++evB round h3 j n++evB (round+1) h4 j n++evB (round+1+1) h5 j n++evB (round+1+1+1) h6 j n
theorem complete_ok {net:T_network_Net} [NeZero net.zw.S.P] {n t:Nat} {z:T_api_VSSState} (s:Sc net.zw n t) (hn:n≤7) (ht:t≤2) (S:Ss net.zw.S.P n t z.S) (R:Rr net.zw.S.P n t (fun d=>(z.S.getD d []).length) z.Rows) (F:Fl n z.Flags) {B:Nat} (hv:VB n B net.zviews) (hB:B≤400) (hr:0≤net.zround∧net.zround≤900) :
    ∃ (ans told:List (List (List (List Nat)))) (acc obj:List (List Bool)) (views:List (List T_api_Event)),vss_Complete net z=some (⟨(List.range n).map fun i=>(List.range n).map fun d=>hld t (z.S.getD d []).length ((z.Rows.getD i []).getD d []) ((told.getD d []).getD i []) (dq n t acc obj d) (ac acc d i),(List.range n).map (dq n t acc obj)⟩,net.zround+4,views) ∧
      (∀ d,d < n→Hn net.zw d→(ans.getD 0 []).getD d []=got (say1 net.zw.S.P (z.S.getD d []) (dis z.Flags n d n)) (z.S.getD d []).length (dis z.Flags n d n).length) ∧
      (∀ i,i < n→Hn net.zw i→∀ d,d < n→(ac acc d i=true ↔ Wr net.zw.S.P n z i d ((ans.getD 0 []).getD d []))) ∧
      Td net.zw.S.P n t (fun d=>(z.S.getD d []).length) acc told ∧
      (∀ d,d < n→Hn net.zw d→∀ a,a < n→ac acc d a=true→∀ k,k < (z.S.getD d []).length→((told.getD d []).getD a []).getD k []=Rw net.zw.S.P ((z.S.getD d []).getD k []) (a+1)) ∧
      (∀ i,i < n→Hn net.zw i→∀ d,d < n→(ac obj d i=true ↔ Ob net.zw.S.P n z.Rows told acc i d)) ∧
      VB n (B+4*n) views∧(net.zw.Deviations=[]→(∀ d,d < n→dis z.Flags n d n=[])→Zv n net.zviews→Zv n views) ∧
      ∃ h3 h4 h5 h6 b1 b2,Tr2 net.zw n t z net.zround net.zviews views (ans.getD 0 []) told acc obj h3 h4 h5 h6 b1 b2:=by
  have hp:=s.sup
  have hRl:z.Rows.length=n:=R.len
  have hmx:max 0 ((n:Nat):Int).toNat=n:=by simp
  have hcs:∀ (r:Int) (v:List (List T_api_Event)) (T:List T_tape_Tape) (a o:List (List Bool)) (l:List (List (List (List Nat)))),Cs net.zw.S.P n t ⟨⟨net.zw,r,v,T⟩,net.zw.S.P,z,a,o,l⟩:=fun r v T a o l=>⟨rfl,rfl,s,hn,ht,S,R,F⟩
  -- answers
  obtain ⟨heard,v1,e1,a1,a2,a3,a4,a5,a6⟩:=answers_ok (c:=⟨net,net.zw.S.P,z,[],[],[]⟩) (hcs net.zround net.zviews net.ztapes [] [] []) hv (by omega) (by show 0≤net.zround∧net.zround≤1000;omega)
  simp only at e1 a2 a4 a5 a6
  generalize hans:((List.range n).map fun d=>got (heard.getD d []) (z.S.getD d []).length (dis z.Flags n d n).length)=ans at e1
  have hansd:∀ d,d < n→ans.getD d []=got (heard.getD d []) (z.S.getD d []).length (dis z.Flags n d n).length:=fun d hd=>by rw [← hans,map_getD hd]
  have hansl:ans.length=n:=by rw [← hans];simp
  -- accusations
  have hw:∀ i,i < n→∀ d,d < n→∃ b,vss_Complete_1 ((i:Nat):Int) ((d:Nat):Int) (⟨⟨net.zw,net.zround+1,v1,net.ztapes⟩,net.zw.S.P,z,[],[],[]⟩:T_vss_court) ans=some b∧(b=true ↔ Wr net.zw.S.P n z i d (ans.getD d [])):=fun i hi d hd=>by
    obtain ⟨b,e,h⟩:=wronged_ok (hcs (net.zround+1) v1 net.ztapes [] [] []) hi hd (ans:=ans.getD d []) (by rw [hansd d hd,got_len]) (fun q hq=>by
      rw [hansd d hd,got_len] at hq
      rw [hansd d hd,got_get hq];simp)
    refine ⟨b,?_,h⟩
    unfold vss_Complete_1
    rw [idx_getD [] (by omega) (by omega),bS,Int.toNat_natCast,e,bS]
  obtain ⟨acc,v2,e2,b1,b2,b3,b4,h4,b5,b6,b7⟩:=vote_ok (c:=⟨⟨net.zw,net.zround+1,v1,net.ztapes⟩,net.zw.S.P,z,[],[],[]⟩) s hn hRl (says:=fun i d=>vss_Complete_1 ((i:Nat):Int) ((d:Nat):Int) (⟨⟨net.zw,net.zround+1,v1,net.ztapes⟩,net.zw.S.P,z,[],[],[]⟩:T_vss_court) ans)
    (b:=fun i d=>(vss_Complete_1 ((i:Nat):Int) ((d:Nat):Int) (⟨⟨net.zw,net.zround+1,v1,net.ztapes⟩,net.zw.S.P,z,[],[],[]⟩:T_vss_court) ans).getD false) (fun i hi d hd=>by
      obtain ⟨b,e,_⟩:=hw i hi d hd
      rw [e];rfl) a3 (by omega) (by show 0≤net.zround+1∧net.zround+1≤1000;omega)
  simp only at e2 b2 b4 b5 b7
  have hacc:∀ i,i < n→Hn net.zw i→∀ d,d < n→(ac acc d i=true ↔ Wr net.zw.S.P n z i d (ans.getD d [])):=fun i hi hh d hd=>by
    obtain ⟨b,e,h⟩:=hw i hi d hd
    unfold ac
    rw [b2 i hi hh d hd,e];exact h
  -- public rows
  obtain ⟨told,v3,e3,c1,c2,c3,c4,h5,c5,c6,c7⟩:=tell_ok (c:=⟨⟨net.zw,net.zround+1+1,v2,net.ztapes⟩,net.zw.S.P,z,acc,[],[]⟩) (hcs _ v2 net.ztapes acc [] []) b1 rfl b3 (by omega) (by show 0≤net.zround+1+1∧net.zround+1+1≤1000;omega)
  simp only at e3 c1 c2 c4 c5 c6 c7
  -- objections
  have ho:∀ i,i < n→∀ d,d < n→∃ b,vss_court_objecting (⟨⟨net.zw,net.zround+1+1+1,v3,net.ztapes⟩,net.zw.S.P,z,acc,[],told⟩:T_vss_court) ((i:Nat):Int) ((d:Nat):Int)=some b∧(b=true ↔ Ob net.zw.S.P n z.Rows told acc i d):=fun i hi d hd =>
    objecting_ok (hcs _ v3 net.ztapes acc [] told) b1 c1 hi hd
  obtain ⟨obj,v4,e4,d1,d2,d3,d4,h6,d5,d6,d7⟩:=vote_ok (c:=⟨⟨net.zw,net.zround+1+1+1,v3,net.ztapes⟩,net.zw.S.P,z,acc,[],told⟩) s hn hRl (says:=fun i d=>vss_court_objecting (⟨⟨net.zw,net.zround+1+1+1,v3,net.ztapes⟩,net.zw.S.P,z,acc,[],told⟩:T_vss_court) ((i:Nat):Int) ((d:Nat):Int))
    (b:=fun i d=>(vss_court_objecting (⟨⟨net.zw,net.zround+1+1+1,v3,net.ztapes⟩,net.zw.S.P,z,acc,[],told⟩:T_vss_court) ((i:Nat):Int) ((d:Nat):Int)).getD false) (fun i hi d hd=>by
      obtain ⟨b,e,_⟩:=ho i hi d hd
      rw [e];rfl) c3 (by omega) (by show 0≤net.zround+1+1+1∧net.zround+1+1+1≤1000;omega)
  simp only at e4 d2 d4 d5 d7
  have hobj:∀ i,i < n→Hn net.zw i→∀ d,d < n→(ac obj d i=true ↔ Ob net.zw.S.P n z.Rows told acc i d):=fun i hi hh d hd=>by
    obtain ⟨b,e,h⟩:=ho i hi d hd
    unfold ac
    rw [d2 i hi hh d hd,e];exact h
  refine ⟨[ans],told,acc,obj,v4,?_,fun d hd hh=>by show ans.getD d []=_;rw [hansd d hd,a2 d hd hh],hacc,c1,c2,hobj,⟨d3.1,fun j hj=>Nat.le_trans (d3.2 j hj) (by omega)⟩,fun hd h2 h3=>?_,heard,h4,h5,h6,_,_,a5,fun d hd=>hansd d hd,fun i hi d hd=>?_,b5,fun d hd i hi=>b6 d hd i hi,c5,c6,fun i hi d hd=>?_,d5,fun d hd i hi=>d6 d hd i hi,fun j hj=>by rw [d7 j hj,c7 j hj,b7 j hj,a6 j hj]⟩
  · unfold vss_Complete network_Net_Scenario
    rw [bS,e1,bS]
    simp only
    rw [vote1,e2,bS]
    simp only
    rw [e3,bS]
    simp only
    rw [vote2,e4,bS]
    unfold vss_court_parties
    simp only
    rw [hRl,bS,hmx,ckN_some (by omega),bS,Nat.sub_zero,rgS_tab' (dq n t acc obj) (fun d l hd hl=>by
      unfold vss_Complete_L0
      simp only
      rw [out_ok (c:=⟨⟨net.zw,net.zround+1+1+1+1,v4,net.ztapes⟩,net.zw.S.P,z,acc,obj,told⟩) hRl hn s.T b1 d1 hd,bS,appO_some (by simp only [List.length_cons,List.length_nil];omega) (by simp only [List.length_cons,List.length_nil];omega),bS]),bS,
      rgS_tab' (fun i=>(List.range n).map fun d=>hld t (z.S.getD d []).length ((z.Rows.getD i []).getD d []) ((told.getD d []).getD i []) (dq n t acc obj d) (ac acc d i)) (fun i l hi hl=>by
      unfold vss_Complete_L1
      rw [hmx,Nat.sub_zero,rgS_tab' (fun d=>hld t (z.S.getD d []).length ((z.Rows.getD i []).getD d []) ((told.getD d []).getD i []) (dq n t acc obj d) (ac acc d i)) (fun d l2 hd hl2=>by
        unfold vss_Complete_L2
        simp only
        rw [ix false (by simp;exact hd),bS,map_getD hd,held_ok (hcs (net.zround+1+1+1+1) v4 net.ztapes acc obj told) b1 c1 hi hd,bS,appO_some (by simp only [List.length_cons,List.length_nil];omega) (by simp only [List.length_cons,List.length_nil];omega),bS]),bS,appO_some (by simp only [List.length_cons,List.length_nil];omega) (by simp only [List.length_cons,List.length_nil];omega),bS]),bS]
    have:net.zround+1+1+1+1=net.zround+4:=by omega
    rw [this]
  · have ha0:∀ d,d < n→∀ i,i < n→ac acc d i=false:=fun d hdn i hi=>by
      cases h:ac acc d i
      · rfl
      · obtain ⟨q,hq,_⟩:=(hacc i hi (.inr hd) d hdn).1 h
        rw [h2 d hdn] at hq;simp at hq
    have ho0:∀ d,d < n→∀ i,i < n→ac obj d i=false:=fun d hdn i hi=>by
      cases h:ac obj d i
      · rfl
      · obtain ⟨_,a,ha,k,hk,_⟩:=(hobj i hi (.inr hd) d hdn).1 h
        rw [c1.no d hdn a ha (ha0 d hdn a ha)] at hk;simp at hk
    refine d4 hd (fun i hi d hdn=>?_) (c4 hd (fun d hdn i hi=>ha0 d hdn i hi) (b4 hd (fun i hi d hdn=>?_) (a4 hd h2 h3)))
    · rw [← d2 i hi (.inr hd) d hdn];exact ho0 d hdn i hi
    · rw [← b2 i hi (.inr hd) d hdn];exact ha0 d hdn i hi
  · obtain ⟨b,e,h⟩:=hw i hi d hd
    rw [e];exact h
  · obtain ⟨b,e,h⟩:=ho i hi d hd
    rw [e];exact h
end Pu
