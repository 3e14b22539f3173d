/- Plain laws of chapter 19: sharing commits every dealer. -/
import Derived.Test.YtahofpgjianhdaaGreatDoorPl4
set_option linter.unusedVariables false
namespace Pu
open Gw Gl Sp
section
variable {p:Nat} [NeZero p]
theorem refEval_pev (hp:Sup p) {f:List Nat} {x:Nat} (hf:Lt p f) (hl:f.length≤1000) (hx:x < p):privityref04_Eval p f x=some (pev p f x):=by
  obtain ⟨y,e,h1,h2⟩:=refEval_ok hp hf hx
  obtain ⟨_,h3,h4⟩:=pev_ok hp hf hx hl
  rw [e,o_inj h1 h3 (by rw [h2,h4])]
end
theorem joined_ok {w:T_api_Scenario} [NeZero w.S.P] {n t:Nat} (v:Va w n t) {a:List (List Nat)} (hl:a.length=n) (hr:∀ i,i < n→(a.getD i []).length≤1000∧Lt w.S.P (a.getD i [])) (hc:∀ i,i < n→Hn w i→∀ j,j < n→Hn w j→pev w.S.P (a.getD i []) (j+1)=pev w.S.P (a.getD j []) (i+1)):privityref19_Joined w a=some true:=by
  have hp:=v.sup
  have hlt:=hp.lt
  have h13:=v.n13
  have hg:=fun q h=>hon_get (w:=w) (n:=n) (q:=q) h
  have hhl:=hon_len v.toSc
  unfold privityref19_Joined
  rw [hons_ok v.toSc,bS,List.length_map,Nat.sub_zero,rgO_true (fun q _ hq=>by
    have hq:q < (hon w n).length:=by omega
    obtain ⟨g1,g2⟩:=hg q hq
    unfold privityref19_Joined_L0
    rw [ckN_some (by omega),bS,Nat.sub_zero,rgO_true (fun r _ hr2=>by
      have hr3:r < (hon w n).length:=by omega
      obtain ⟨f1,f2⟩:=hg r hr3
      have e0:(((hon w n).getD q 0+1:Nat):Int) - 1=(((hon w n).getD q 0:Nat):Int):=by omega
      have e1:(((hon w n).getD r 0+1:Nat):Int) - 1=(((hon w n).getD r 0:Nat):Int):=by omega
      have u0:toU (((hon w n).getD q 0+1:Nat):Int)=(hon w n).getD q 0+1:=by unfold toU;omega
      have u1:toU (((hon w n).getD r 0+1:Nat):Int)=(hon w n).getD r 0+1:=by unfold toU;omega
      unfold privityref19_Joined_L1
      rw [mapI 0 hq,bS,subI_some (by omega) (by omega),bS,e0,idx_getD [] (by omega) (by omega),bS,mapI 0 hr3,bS,u1,bS,Int.toNat_natCast,refEval_pev hp (hr _ g1).2 (hr _ g1).1 (by omega),bS,subI_some (by omega) (by omega),bS,e1,idx_getD [] (by omega) (by omega),bS,u0,bS,Int.toNat_natCast,refEval_pev hp (hr _ f1).2 (hr _ f1).1 (by omega),bS,hc _ g1 (.inl g2) _ f1 (.inl f2),qF rfl,cF]),bS,oG]),bS,oG]
/-- the honest parties' shares reconstruct -/
theorem recon_hon {w:T_api_Scenario} [NeZero w.S.P] {n t:Nat} (v:Va w n t) (hn:n≤7) {r:Nat→List Nat} {f:List Nat} (hr:∀ i,i < n→Lt w.S.P (r i)) (hf:Lt w.S.P f) (hfl:f.length≤t+1) (hY:∀ i,i < n→Hn w i→o w.S.P ((r i).getD 0 0)=evl (P w.S.P f) (o w.S.P (i+1))) :
    shamir_Reconstruct w.S.P ((t:Nat):Int) ((List.range (hon w n).length).map fun q=>(⟨(hon w n).getD q 0+1,(r ((hon w n).getD q 0)).getD 0 0⟩:T_api_Point))=some (f.getD 0 0,0):=by
  have hp:=v.sup
  have hlt:=hp.lt
  have ht3:=v.t3
  obtain ⟨hl1,hl2⟩:=hon_len v.toSc
  have hg:=fun q h=>hon_get (w:=w) (n:=n) (q:=q) h
  have hlt2:=fun a b hab h=>hon_lt (w:=w) (n:=n) (a:=a) (b:=b) hab h
  generalize hon w n=H at *
  have hLl:((List.range H.length).map fun q=>(⟨H.getD q 0+1,(r (H.getD q 0)).getD 0 0⟩:T_api_Point)).length=H.length:=by simp
  refine recon_ok hp (X:=fun i=>H.getD i 0+1) (Y:=fun i=>(r (H.getD i 0)).getD 0 0) ⟨fun i hi=>by rw [hLl] at hi;rw [List.getElem?_map,List.getElem?_range hi];rfl,fun i hi=>?_,fun i j hi hj hij e=>?_⟩ (by omega) (by omega) hf hfl (fun i hi=>?_)
  · rw [hLl] at hi
    have:=(hg i hi).1
    exact ⟨Nat.succ_pos _,by omega,Lt.get hp.pos (hr _ this) 0⟩
  · rw [hLl] at hi hj
    rcases Nat.lt_or_gt_of_ne hij with g | g
    · have:=hlt2 i j (by omega) (by omega);omega
    · have:=hlt2 j i (by omega) (by omega);omega
  · rw [hLl] at hi
    exact hY _ (hg i hi).1 (.inl (hg i hi).2)
theorem law_Commits (x:T_privitylaw19_Play) (hK:∀ y ∈ x.W.Deviations,y.K < 18446744073709551616):privitylaw19_VSSCommitsEveryDealer x=some true:=by
  unfold privitylaw19_VSSCommitsEveryDealer
  obtain ⟨b,e,hb⟩:=fair19_ok (q:=x.Q) hK
  rw [aw19,bS,nT,cF,e,bS]
  cases b with
  | false=>rw [nF,cT]
  | true =>
    obtain ⟨n,t,v,hn,ht,Q⟩:=hb rfl
    have hp:=v.sup
    haveI:NeZero x.W.S.P:=hp.ne
    have hlt:=hp.lt
    have ht3:=v.t3
    obtain ⟨res,views,T,er,hr,_,_,hc⟩:=run_ok v hn ht Q
    obtain ⟨hl1,hl2⟩:=hon_len v.toSc
    have hmx:max 1 (x.W.S.N+1).toNat=n+1:=by rw [v.N];omega
    rw [nT,cF,er,bS,sR]
    simp only
    rw [nT,cF,hons_ok v.toSc,bS,hmx,ckN_some (by omega),bS,Nat.add_sub_cancel,rgO_true (fun a ha1 ha=>by
      obtain ⟨d,rfl⟩:∃ d,a=d+1:=⟨a - 1,by omega⟩
      have hd:d < n:=by omega
      have e0:((d+1:Nat):Int) - 1=((d:Nat):Int):=by omega
      have hm2:=(Q.many d hd).1
      unfold privitylaw19_VSSCommitsEveryDealer_L0
      obtain ⟨r,er2,hr2⟩:=lpO_big (step:=fun (st:Int)=>privitylaw19_VSSCommitsEveryDealer_L1 x ((⟨x.W,7,views,T⟩:T_network_Net),res,true) ((hon x.W n).map fun i=>((i+1:Nat):Int)) (d+1) st) (fun s=>∃ k:Nat,s=(k:Int)∧k≤(x.Q.getD d []).length) (fun r=>r=.inr ()) (fun s=>(x.Q.getD d []).length - s.toNat) (fun s ⟨k,hs,hk⟩=>by
          subst hs
          unfold privitylaw19_VSSCommitsEveryDealer_L1
          simp only
          rw [subI_some (by omega) (by omega),bS,e0,idx_getD [] (by omega) (by rw [Q.len];omega),bS,Int.toNat_natCast]
          by_cases g:k < (x.Q.getD d []).length
          · have hrow:∀ i,i < n→((List.range n).map fun i=>((res.Rows.getD i []).getD d []).getD k []).getD i []=((res.Rows.getD i []).getD d []).getD k []:=fun i hi=>map_getD hi
            have hw:=fun i hi=>hr.ww i hi d hd k g
            have hj:=joined_ok v (a:=(List.range n).map fun i=>((res.Rows.getD i []).getD d []).getD k []) (by simp) (fun i hi=>by rw [hrow i hi,(hw i hi).1];exact ⟨by omega,(hw i hi).2⟩) (fun i hi hhi j hj hhj=>by rw [hrow i hi,hrow j hj];exact hc.cs d hd k g i hi hhi j hj hhj)
            obtain ⟨f,f1,f2,f3⟩:=hc.sp d hd k g
            have hrec:=recon_hon v hn (r:=fun i=>((res.Rows.getD i []).getD d []).getD k []) (fun i hi=>(hw i hi).2) f1 f2 f3
            have et:((t:Nat):Int)+1=((t+1:Nat):Int):=by omega
            rw [dT (by omega),cT,sharing19_ok (by omega) hr hd g hm2,bS,List.length_map,List.length_range,v.N,qF rfl,cF,hj,bS,nT,bS,cF,Nat.sub_zero,List.length_map]
            obtain ⟨o',eo,ho⟩:=rgO_inv (body:=fun k3 (st:(List T_api_Point))=>privitylaw19_VSSCommitsEveryDealer_L2 x ((⟨x.W,7,views,T⟩:T_network_Net),res,true) ((hon x.W n).map fun i=>((i+1:Nat):Int)) ((d:Nat):Int) ((List.range n).map fun i=>((res.Rows.getD i []).getD d []).getD k []) k3 st) (fun k' l=>l=(List.range k').map fun q=>(⟨(hon x.W n).getD q 0+1,(((res.Rows.getD ((hon x.W n).getD q 0) []).getD d []).getD k []).getD 0 0⟩:T_api_Point)) (fun _=>False) (rem:=(hon x.W n).length) (k:=0) (s:=([]:List T_api_Point)) rfl (fun q l _ hq hl=>by
              have hq:q < (hon x.W n).length:=by omega
              obtain ⟨hi,hh⟩:=hon_get hq
              have hll:l.length=q:=by rw [hl];simp
              have e3:(((hon x.W n).getD q 0+1:Nat):Int) - 1=(((hon x.W n).getD q 0:Nat):Int):=by omega
              have hu:toU (((hon x.W n).getD q 0+1:Nat):Int)=(hon x.W n).getD q 0+1:=by unfold toU;omega
              have hfin:l++[(⟨(hon x.W n).getD q 0+1,(((res.Rows.getD ((hon x.W n).getD q 0) []).getD d []).getD k []).getD 0 0⟩:T_api_Point)]=(List.range (q+1)).map fun q=>(⟨(hon x.W n).getD q 0+1,(((res.Rows.getD ((hon x.W n).getD q 0) []).getD d []).getD k []).getD 0 0⟩:T_api_Point):=by rw [hl,List.range_succ,List.map_append];rfl
              unfold privitylaw19_VSSCommitsEveryDealer_L2
              simp only
              rw [mapI 0 hq,bS,hu,bS,subI_some (by omega) (by omega),bS,e3,idx_getD [] (by omega) (by simp;exact hi),bS,Int.toNat_natCast,hrow _ hi,ix 0 (by rw [(hw _ hi).1];omega),bS,appO_some (by simp only [List.length_cons,List.length_nil];omega) (by simp only [List.length_cons,List.length_nil];omega),bS,idx_getD false (by omega) (by rw [hr.dl];omega),bS,Int.toNat_natCast]
              cases hdq:res.Disqualified.getD d false
              · rw [cF]
                exact ⟨_,rfl,hfin⟩
              · rw [cT,v.T,addI_some (by omega) (by omega),bS,et,mkO_some (by omega) (by omega) (by omega) (by omega),bS,Int.toNat_natCast,hc.dz d hd hdq _ hi k g,same_ok,bS,nT,cF]
                rw [hc.dz d hd hdq _ hi k g] at hfin
                exact ⟨_,rfl,hfin⟩)
            cases o' with
            | fin b=>exact ho.elim
            | go l =>
              have ho:l=(List.range (0+(hon x.W n).length)).map fun q=>(⟨(hon x.W n).getD q 0+1,(((res.Rows.getD ((hon x.W n).getD q 0) []).getD d []).getD k []).getD 0 0⟩:T_api_Point):=ho
              rw [Nat.zero_add] at ho
              rw [eo,bS,oG,v.T,ho,hrec,bS]
              simp only
              rw [qF rfl,cF,addI_some (by omega) (by omega),bS]
              exact ⟨_,rfl,⟨k+1,by omega,by omega⟩,by show (x.Q.getD d []).length - (((k:Nat):Int)+1).toNat < (x.Q.getD d []).length - ((k:Nat):Int).toNat;omega⟩
          · rw [dF (by omega),cF]
            exact ⟨_,rfl,rfl⟩) (s:=((0:Nat):Int)) ⟨0,rfl,by omega⟩ (by omega)
      rw [er2,bS,hr2,sbR]),bS,oG]
end Pu
