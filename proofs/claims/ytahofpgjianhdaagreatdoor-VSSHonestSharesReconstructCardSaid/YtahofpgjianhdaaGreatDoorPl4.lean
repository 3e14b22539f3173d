/- Plain laws of chapter 19: shares of honest parties reconstruct an honest dealer's secret. -/
import Derived.Test.YtahofpgjianhdaaGreatDoorPl3
set_option linter.unusedVariables false
namespace Pu
open Gw Gl Sp
/-- the honest parties -/
def hon (w:T_api_Scenario) (n:Nat):List Nat:=(List.range n).filter fun i=>decide (((i+1:Nat):Int) ∉ w.Corrupt)
theorem hon_get {w:T_api_Scenario} {n q:Nat} (h:q < (hon w n).length):(hon w n).getD q 0 < n∧(((((hon w n).getD q 0:Nat):Int)+1) ∉ w.Corrupt):=by
  have h1:=getD_in (d:=0) h
  obtain ⟨h2,h3⟩:=List.mem_filter.1 h1
  exact ⟨by simpa using h2,of_decide_eq_true h3⟩
theorem hon_lt {w:T_api_Scenario} {n a b:Nat} (hab:a < b) (h:b < (hon w n).length):(hon w n).getD a 0 < (hon w n).getD b 0:=by
  have hp:(hon w n).Pairwise (· < ·):=List.Pairwise.sublist List.filter_sublist List.pairwise_lt_range
  rw [List.getD_eq_getElem?_getD,List.getD_eq_getElem?_getD,List.getElem?_eq_getElem h,List.getElem?_eq_getElem (show a < (hon w n).length by omega)]
  exact List.pairwise_iff_getElem.1 hp a b (by omega) h hab
theorem hon_len {w:T_api_Scenario} {n t:Nat} (s:Sc w n t):n≤(hon w n).length+t∧(hon w n).length≤n:=by
  have h1:∀ l:List Nat,(l.filter fun i=>decide (((i+1:Nat):Int) ∉ w.Corrupt)).length+(l.filter fun i=>decide (((i+1:Nat):Int) ∈ w.Corrupt)).length=l.length:=fun l=>by
    induction l with
    | nil=>rfl
    | cons x l ih =>
      by_cases g:((x+1:Nat):Int) ∈ w.Corrupt
      · simp only [List.filter_cons,g,not_true_eq_false,decide_false,decide_true,if_true,List.length_cons]
        simp only [Bool.false_eq_true,if_false]
        omega
      · simp only [List.filter_cons,g,not_false_eq_true,decide_false,decide_true,if_true,List.length_cons]
        simp only [Bool.false_eq_true,if_false]
        omega
  have h2:=h1 (List.range n)
  rw [List.length_range] at h2
  have h3:=sub_len (l1:=((List.range n).filter fun i=>decide (((i+1:Nat):Int) ∈ w.Corrupt)).map fun i=>((i:Nat):Int)+1) (l2:=w.Corrupt) (by
    rw [List.Nodup,List.pairwise_map]
    exact List.Pairwise.imp (fun {a b} h=>by omega) (List.Pairwise.sublist List.filter_sublist List.nodup_range)) (fun x hx=>by
    obtain ⟨i,hi,rfl⟩:=List.mem_map.1 hx
    exact of_decide_eq_true (List.mem_filter.1 hi).2)
  rw [List.length_map] at h3
  have:=s.cl
  unfold hon
  omega
theorem hons_ok {w:T_api_Scenario} {n t:Nat} (s:Sc w n t):privityref12_HonestParties w.S w.Corrupt=some ((hon w n).map fun i=>((i+1:Nat):Int)):=by
  have h13:=s.n13
  unfold privityref12_HonestParties
  have hm:max 1 (w.S.N+1).toNat=n+1:=by rw [s.N];omega
  rw [hm,ckN_some (by omega),bS,Nat.add_sub_cancel]
  obtain ⟨h,e,j,hj,h2⟩:=rgS_inv (body:=fun k1 (st:(List Int))=>privityref12_HonestParties_L0 w.Corrupt k1 st) (rem:=n) (k:=1) (s:=([]:List Int))
    (fun k h=>∃ j,k=j+1∧h=(hon w j).map fun i=>((i+1:Nat):Int)) ⟨0,rfl,rfl⟩ (fun k h h1 hk ⟨j,hj,h2⟩=>by
      subst hj
      have hl:h.length≤j:=by
        rw [h2,List.length_map]
        have:=List.length_filter_le (fun i=>decide (((i+1:Nat):Int) ∉ w.Corrupt)) (List.range j)
        rw [List.length_range] at this;exact this
      unfold privityref12_HonestParties_L0
      rw [in19_ok,bS]
      by_cases g:((j+1:Nat):Int) ∈ w.Corrupt
      · rw [dT g,nT,cF]
        refine ⟨_,rfl,j+1,rfl,?_⟩
        rw [h2]
        unfold hon
        have e2:List.filter (fun i=>decide (((i+1:Nat):Int) ∉ w.Corrupt)) [j]=[]:=by rw [List.filter_cons,if_neg (fun h=>(of_decide_eq_true h) g),List.filter_nil]
        rw [List.range_succ,List.filter_append,e2,List.append_nil]
      · rw [dF g,nF,cT,appO_some (by simp only [List.length_cons,List.length_nil];omega) (by simp only [List.length_cons,List.length_nil];omega),bS]
        refine ⟨_,rfl,j+1,rfl,?_⟩
        rw [h2]
        unfold hon
        have e2:List.filter (fun i=>decide (((i+1:Nat):Int) ∉ w.Corrupt)) [j]=[j]:=by rw [List.filter_cons,if_pos (decide_eq_true g),List.filter_nil]
        rw [List.range_succ,List.filter_append,e2,List.map_append]
        rfl)
  have:j=n:=by omega
  subst this
  rw [e,bS,h2]
theorem mapI {α β:Type} {l:List α} {f:α→β} {q:Nat} (d:α) (h:q < l.length):(l.map f)[q]?=some (f (l.getD q d)):=by
  rw [List.getElem?_map,ix d h];rfl
theorem sharing19_ok {w:T_api_Scenario} {q:List (List (List Nat))} {n t d k:Nat} {res:T_api_VSSResult} (hn:n≤100) (r:Res w q n t res) (hd:d < n) (hk:k < (q.getD d []).length) (hm:(q.getD d []).length≤2) :
    vss_SharingOf res ((d+1:Nat):Int) ((k:Nat):Int)=some ((List.range n).map fun i=>((res.Rows.getD i []).getD d []).getD k []):=by
  have e0:((d+1:Nat):Int) - 1=((d:Nat):Int):=by omega
  unfold vss_SharingOf
  rw [Nat.sub_zero,r.rl,rgS_tab' (fun i=>((res.Rows.getD i []).getD d []).getD k []) (fun i l hi hl=>by
    unfold vss_SharingOf_L0
    rw [ix [] (by rw [r.rl];exact hi),bS,subI_some (by omega) (by omega),bS,e0,idx_getD [] (by omega) (by rw [r.row i hi];omega),bS,Int.toNat_natCast,idx_getD [] (by omega) (by rw [r.many i hi d hd];omega),bS,Int.toNat_natCast,appO_some (by simp only [List.length_cons,List.length_nil];omega) (by simp only [List.length_cons,List.length_nil];omega),bS]),bS]
theorem mx_row {t:Nat} {f r:List Nat} (ht:t=1 ∨ t=2) (hf:f.length=t+1) (hr:r.length=t*(t+1) / 2):(mx f r).getD 0 []=f:=by
  rcases ht with rfl | rfl
  · match f,hf with
    | [a,b],_=>match r,hr with
      | [c],_=>unfold mx;rw [rnew1];rfl
  · match f,hf with
    | [a,b,c],_=>match r,hr with
      | [d,e,g],_=>unfold mx;rw [rnew2];rfl
/-- the polynomial of the shares -/
def cl0 (M:List (List Nat)) (t:Nat):List Nat:=(List.range (t+1)).map fun a=>(M.getD a []).getD 0 0
section
variable {p:Nat} [NeZero p]
theorem cl0_ok (hp:Sup p) {t x:Nat} {M:List (List Nat)} (hM:Mat p (t+1) (t+1) M) (ht:t≤2) (hx:x < p):(cl0 M t).length=t+1∧Lt p (cl0 M t)∧o p ((Rw p M x).getD 0 0)=evl (P p (cl0 M t)) (o p x):=by
  have hl:(cl0 M t).length=t+1:=by unfold cl0;simp
  refine ⟨hl,Lt_map fun a ha=>hM.lt a ha 0 (by omega),?_⟩
  rw [(Rw_ok hp hM (by omega) hx).2.2.2.2 0 (by omega),evl_P (n:=t+1) (by rw [hl];exact Nat.le_refl _)]
  refine sm_congr fun a ha=>?_
  unfold cl0
  rw [map_getD ha]
end
theorem law_Shares (x:T_privitylaw19_Play) (hK:∀ y ∈ x.W.Deviations,y.K < 18446744073709551616):privitylaw19_VSSHonestSharesReconstruct x=some true:=by
  unfold privitylaw19_VSSHonestSharesReconstruct
  obtain ⟨b,e,hb⟩:=fair19_ok (q:=x.Q) hK
  rw [aw19,bS,nT,cF,e,bS]
  cases b with
  | false=>rw [nF,cT]
  | true =>
    obtain ⟨n,t,v,hn,ht,Q⟩:=hb rfl
    have hp:=v.sup
    haveI:NeZero x.W.S.P:=hp.ne
    have hlt:=hp.lt
    have ht3:=v.t3
    obtain ⟨res,views,T,er,hr,_,_⟩:=run_ok v hn ht Q
    obtain ⟨hl1,hl2⟩:=hon_len v.toSc
    have hg:=fun q h=>hon_get (w:=x.W) (n:=n) (q:=q) h
    have hlt2:=fun a b hab h=>hon_lt (w:=x.W) (n:=n) (a:=a) (b:=b) hab h
    rw [nT,cF,er,bS,sR]
    simp only
    rw [nT,cF,hons_ok v.toSc,bS,Nat.sub_zero,List.length_map]
    generalize hH:hon x.W n=H at *
    rw [rgO_true (fun a _ ha=>by
      have ha:a < H.length:=by omega
      obtain ⟨hd,hdc⟩:=hg a ha
      generalize hdd:H.getD a 0=d at hd hdc
      have hhd:Hn x.W d:=.inl hdc
      have e0:((d+1:Nat):Int) - 1=((d:Nat):Int):=by omega
      have hm2:=(Q.many d hd).1
      unfold privitylaw19_VSSHonestSharesReconstruct_L0
      obtain ⟨r,er2,hr2⟩:=lpO_big (step:=fun (st:Int)=>privitylaw19_VSSHonestSharesReconstruct_L1 x ((⟨x.W,7,views,T⟩:T_network_Net),res,true) (H.map fun i=>((i+1:Nat):Int)) a st) (fun s=>∃ k:Nat,s=(k:Int)∧k≤(x.Q.getD d []).length) (fun r=>r=.inr ()) (fun s=>(x.Q.getD d []).length - s.toNat) (fun s ⟨k,hs,hk⟩=>by
          subst hs
          unfold privitylaw19_VSSHonestSharesReconstruct_L1
          simp only
          rw [mapI 0 ha,bS,hdd,subI_some (by omega) (by omega),bS,e0,idx_getD [] (by omega) (by rw [Q.len];omega),bS,Int.toNat_natCast]
          by_cases g:k < (x.Q.getD d []).length
          · obtain ⟨_,hM,_⟩:=Sm_mat (p:=x.W.S.P) hp.pos ht Q hd g
            obtain ⟨w1,w2⟩:=Q.w d hd k g
            have hX:∀ q,q < H.length→H.getD q 0+1 < x.W.S.P:=fun q hq=>by have:=(hg q hq).1;omega
            have hrow:∀ q,q < H.length→((res.Rows.getD (H.getD q 0) []).getD d []).getD k []=Rw x.W.S.P ((Sm x.Q x.W.Tapes t d).getD k []) (H.getD q 0+1):=fun q hq=>hr.ok d hd hhd _ (hg q hq).1 (.inl (hg q hq).2) k g
            have hY:∀ q,q < H.length→(((res.Rows.getD (H.getD q 0) []).getD d []).getD k []).getD 0 0 < x.W.S.P∧o x.W.S.P ((((res.Rows.getD (H.getD q 0) []).getD d []).getD k []).getD 0 0)=evl (P x.W.S.P (cl0 ((Sm x.Q x.W.Tapes t d).getD k []) t)) (o x.W.S.P (H.getD q 0+1)):=fun q hq=>by
              rw [hrow q hq]
              exact ⟨Lt.get hp.pos (Rw_ok hp hM (by omega) (hX q hq)).2.2.2.1 0,(cl0_ok hp hM (by omega) (hX q hq)).2.2⟩
            obtain ⟨c1,c2,_⟩:=cl0_ok hp hM (by omega) (show 0 < x.W.S.P by omega)
            have c0:(cl0 ((Sm x.Q x.W.Tapes t d).getD k []) t).getD 0 0=((x.Q.getD d []).getD k []).getD 0 0:=by
              unfold cl0
              rw [map_getD (by omega),Sm_get g,mx_row ht w1 (rst_len (Q.many d hd).2 g)]
            have e1:rgS (fun k2 (st:(List T_api_Point))=>privitylaw19_VSSHonestSharesReconstruct_L2 (H.map fun i=>((i+1:Nat):Int)) ((List.range n).map fun i=>((res.Rows.getD i []).getD d []).getD k []) k2 st) H.length 0 ([]:List T_api_Point)=some ((List.range H.length).map fun q=>(⟨H.getD q 0+1,(((res.Rows.getD (H.getD q 0) []).getD d []).getD k []).getD 0 0⟩:T_api_Point)):=rgS_tab' _ (fun q l hq hl=>by
              obtain ⟨hi,_⟩:=hg q hq
              have e3:((H.getD q 0+1:Nat):Int) - 1=((H.getD q 0:Nat):Int):=by omega
              have hu:toU ((H.getD q 0+1:Nat):Int)=H.getD q 0+1:=by unfold toU;omega
              unfold privitylaw19_VSSHonestSharesReconstruct_L2
              rw [mapI 0 hq,bS,hu,bS,subI_some (by omega) (by omega),bS,e3,idx_getD [] (by omega) (by simp;exact hi),bS,Int.toNat_natCast,map_getD hi,ix 0 (by rw [(hr.ww _ hi d hd k g).1];omega),bS,appO_some (by simp only [List.length_cons,List.length_nil];omega) (by simp only [List.length_cons,List.length_nil];omega),bS])
            have hpx:∀ (pts:List T_api_Point) (s:Nat),s+pts.length≤H.length→(∀ i,i < pts.length→pts[i]?=some (⟨H.getD (s+i) 0+1,(((res.Rows.getD (H.getD (s+i) 0) []).getD d []).getD k []).getD 0 0⟩:T_api_Point))→t+1≤pts.length→shamir_Reconstruct x.W.S.P ((t:Nat):Int) pts=some (((x.Q.getD d []).getD k []).getD 0 0,0):=fun pts s hs hpt hlen=>by
              rw [← c0]
              exact recon_ok hp (X:=fun i=>H.getD (s+i) 0+1) (Y:=fun i=>(((res.Rows.getD (H.getD (s+i) 0) []).getD d []).getD k []).getD 0 0) ⟨hpt,fun i hi=>⟨Nat.succ_pos _,hX _ (by omega),(hY _ (by omega)).1⟩,fun i j hi hj hij e=>by
                rcases Nat.lt_or_gt_of_ne hij with g | g
                · have:=hlt2 (s+i) (s+j) (by omega) (by omega);omega
                · have:=hlt2 (s+j) (s+i) (by omega) (by omega);omega⟩ hlen (by omega) c2 (by omega) (fun i hi=>(hY _ (by omega)).2)
            have et:((t:Nat):Int)+1=((t+1:Nat):Int):=by omega
            rw [dT (by omega),cT,sharing19_ok (by omega) hr hd g hm2,bS,List.length_map,Nat.sub_zero,e1,bS,v.T,addI_some (by omega) (by omega),bS,et]
            generalize hL:((List.range H.length).map fun q=>(⟨H.getD q 0+1,(((res.Rows.getD (H.getD q 0) []).getD d []).getD k []).getD 0 0⟩:T_api_Point))=L
            have hLl:L.length=H.length:=by rw [← hL];simp
            have hLg:∀ i,i < H.length→L[i]?=some (⟨H.getD i 0+1,(((res.Rows.getD (H.getD i 0) []).getD d []).getD k []).getD 0 0⟩:T_api_Point):=fun i hi=>by rw [← hL,List.getElem?_map,List.getElem?_range hi];rfl
            have e5:((L.length:Nat):Int) - ((t:Nat):Int) - 1=((H.length - t - 1:Nat):Int):=by omega
            have t1:(L.take (t+1)).length=t+1:=by rw [List.length_take];omega
            have t2:(L.drop (H.length - t - 1)).length=t+1:=by rw [List.length_drop];omega
            have r1:=hpx (L.take (t+1)) 0 (by omega) (fun i hi=>by rw [Nat.zero_add,List.getElem?_take,if_pos (by omega)];exact hLg i (by omega)) (by omega)
            have r2:=hpx (L.drop (H.length - t - 1)) (H.length - t - 1) (by omega) (fun i hi=>by rw [List.getElem?_drop];exact hLg _ (by omega)) (by omega)
            rw [cutO_some (by omega) (by omega) (by omega),bS]
            simp only [Int.toNat_natCast,Int.toNat_zero,List.drop_zero,Nat.sub_zero]
            rw [r1,bS,subI_some (by omega) (by omega),bS,subI_some (by omega) (by omega),bS,e5,cutO_some (by omega) (by omega) (by omega),bS]
            simp only [Int.toNat_natCast]
            rw [List.take_of_length_le (by rw [t2];omega),r2,bS]
            simp only
            rw [qF rfl,cF,cF,idx_getD [] (by omega) (by omega),bS,Int.toNat_natCast,ix 0 (by rw [w1];omega),bS,qF rfl,cF,cF,addI_some (by omega) (by omega),bS]
            exact ⟨_,rfl,⟨k+1,by omega,by omega⟩,by show (x.Q.getD d []).length - (((k:Nat):Int)+1).toNat < (x.Q.getD d []).length - ((k:Nat):Int).toNat;omega⟩
          · rw [dF (by omega),cF]
            exact ⟨_,rfl,rfl⟩) (s:=((0:Nat):Int)) ⟨0,rfl,by omega⟩ (by omega)
      rw [er2,bS,hr2,sbR]),bS,oG]
end Pu
