/- Plain laws of chapter 19: perfect secrecy. -/
import Derived.Test.YtahofpgjianhdaaGreatDoorPn4
set_option linter.unusedVariables false
namespace Pu
open Gw Gl Sp
theorem view19_ok {net:T_network_Net} {n i:Nat} (hv:VB n 100 net.zviews) (hi:i < n) (hn:n≤13):network_Net_View net ((i+1:Nat):Int)=some (net.zviews.getD i []):=by
  have e0:((i+1:Nat):Int) - 1=((i:Nat):Int):=by omega
  have hb:=hv.2 i hi
  unfold network_Net_View
  rw [subI_some (by omega) (by omega),bS,e0,idx_getD [] (by omega) (by rw [hv.1];omega),bS,Int.toNat_natCast,appO_some (by simp only [List.length_nil];omega) (by simp only [List.length_nil];omega),bS,List.nil_append]
theorem law_Secrecy (z:T_privitylaw19_Moved) (hK:∀ y ∈ z.X.W.Deviations,y.K < 18446744073709551616) (hDl:z.Dealer < 256):privitylaw19_VSSPerfectSecrecy z=some true:=by
  unfold privitylaw19_VSSPerfectSecrecy
  obtain ⟨b,e,hb⟩:=fair19_ok (q:=z.X.Q) hK
  rw [aw19,bS,nT,cF,e,bS]
  cases b with
  | false=>rw [nF,cT,bS,cT]
  | true =>
    obtain ⟨n,t,v,hn,ht,Q⟩:=hb rfl
    have hp:=v.sup
    haveI:NeZero z.X.W.S.P:=hp.ne
    have hlt:=hp.lt
    have ht3:=v.t3
    have h4:=v.n4
    rw [nT,cF]
    by_cases gD:z.X.W.S.P≤z.D
    · rw [dT (by omega),bS,cT]
    have hD:z.D < z.X.W.S.P:=by omega
    obtain ⟨hl1,hl2⟩:=hon_len v.toSc
    have htI:toI ((z.Dealer:Nat):Int)=((z.Dealer:Nat):Int):=by unfold toI;omega
    have he:z.Dealer % (hon z.X.W n).length < (hon z.X.W n).length:=Nat.mod_lt _ (by omega)
    rw [dF (by omega),bS,cF,hons_ok v.toSc,bS,htI,bS,List.length_map,remI_ok (by omega),bS,idx_getD 0 (by omega) (by rw [List.length_map];omega),bS]
    simp only [Int.toNat_natCast]
    generalize z.Dealer % (hon z.X.W n).length=e at he
    obtain ⟨hu,huc⟩:=hon_get he
    have hge:((hon z.X.W n).map fun i=>((i+1:Nat):Int)).getD e 0=(((hon z.X.W n).getD e 0+1:Nat):Int):=by
      rw [List.getD_eq_getElem?_getD,mapI 0 he];rfl
    rw [hge]
    generalize (hon z.X.W n).getD e 0=u at hu huc
    have e0:((u+1:Nat):Int) - 1=((u:Nat):Int):=by omega
    obtain ⟨hm2,hmt⟩:=Q.many u hu
    obtain ⟨hts,htp⟩:=Q.ts u hu
    rw [subI_some (by omega) (by omega),bS,e0,idx_getD [] (by omega) (by rw [Q.len];omega),bS]
    simp only [Int.toNat_natCast]
    by_cases g0:(z.X.Q.getD u []).length=0
    · rw [eT (by omega),cT]
    have g0:0 < (z.X.Q.getD u []).length:=by omega
    obtain ⟨w1,w2⟩:=Q.w u hu 0 g0
    obtain ⟨zs,ez,z1,z2,z3,z4⟩:=van_ok v
    obtain ⟨f',ef,f1,f2,f3⟩:=first_ok (z:=z) (zs:=zs) (l:=(z.X.Q.getD u []).getD 0 []) (n:=t+1) hp w1 z1 (by omega) w2 z2 hD
    have hrl:t*(t+1) / 2≤(z.X.W.Tapes.getD u []).length:=by
      have:1*(t*(t+1) / 2)≤(z.X.Q.getD u []).length*(t*(t+1) / 2):=Nat.mul_le_mul_right _ g0
      omega
    obtain ⟨tp,y,et,t1,t2,t3,t4⟩:=tape_ok (z:=z) (zs:=zs) (l:=z.X.W.Tapes.getD u []) hp ht v.T z1 hrl htp z2 hD
    have hmx:max 1 (z.X.W.S.T+1).toNat=t+1:=by rw [v.T];omega
    rw [eF (by omega),cF,ez,bS,rest_ok v.T ht,bS,appO_some (by simp only [List.length_nil,Q.len];omega) (by simp only [List.length_nil,Q.len];omega),bS,List.nil_append,appO_some (by simp only [List.length_nil,v.tl];omega) (by simp only [List.length_nil,v.tl];omega),bS,List.nil_append,ix [] g0,bS,appO_some (by simp only [List.length_nil];omega) (by simp only [List.length_nil];omega),bS,List.nil_append,ef,bS,cutO_some (by omega) (by omega) (by omega),bS]
    have e1:((1:Int)).toNat=1:=rfl
    simp only [Int.toNat_natCast,e1]
    have hdrop:((z.X.Q.getD u []).drop 1).take ((z.X.Q.getD u []).length - 1)=(z.X.Q.getD u []).drop 1:=List.take_of_length_le (by rw [List.length_drop];omega)
    rw [hdrop,appO_some (by simp only [List.length_cons,List.length_nil,List.length_drop];omega) (by simp only [List.length_cons,List.length_nil,List.length_drop];omega),bS,idx_getD [] (by omega) (by rw [Q.len];omega),bS,bS,idx_getD [] (by omega) (by rw [v.tl];omega),bS]
    simp only [Int.toNat_natCast]
    rw [appO_some (by simp only [List.length_nil];omega) (by simp only [List.length_nil];omega),bS,List.nil_append,hmx,ckN_some (by omega),bS,Nat.add_sub_cancel,et,bS]
    simp only
    rw [bS,bS]
    have hcons:[f']++(z.X.Q.getD u []).drop 1=f' :: (z.X.Q.getD u []).drop 1:=rfl
    rw [hcons]
    -- the other run
    have hQl:u < z.X.Q.length:=by rw [Q.len];exact hu
    have hTl:u < z.X.W.Tapes.length:=by rw [v.tl];exact hu
    have hqd:∀ d,(z.X.Q.set u (f' :: (z.X.Q.getD u []).drop 1)).getD d []=if u=d then f' :: (z.X.Q.getD u []).drop 1 else z.X.Q.getD d []:=fun d=>getD_set hQl
    have htd:∀ d,(z.X.W.Tapes.set u tp).getD d []=if u=d then tp else z.X.W.Tapes.getD d []:=fun d=>getD_set hTl
    have hlen:(f' :: (z.X.Q.getD u []).drop 1).length=(z.X.Q.getD u []).length:=by rw [List.length_cons,List.length_drop];omega
    have hqk:∀ k,1≤k→(f' :: (z.X.Q.getD u []).drop 1).getD k []=(z.X.Q.getD u []).getD k []:=fun k hk=>by
      cases k with
      | zero=>omega
      | succ k'=>simp [List.getD_eq_getElem?_getD,Nat.add_comm]
    have htb:∀ i,i < n→∀ j,j < ((z.X.W.Tapes.set u tp).getD i []).length→((z.X.W.Tapes.set u tp).getD i []).getD j 0 < z.X.W.S.P:=fun i hi j hj=>by
      rw [htd i] at hj ⊢
      split
      · exact Lt.get hp.pos t2 j
      · rename_i g
        rw [if_neg g] at hj;exact v.tb i hi j hj
    have hts2:∀ i,i < n→((z.X.W.Tapes.set u tp).getD i []).length≤100:=fun i hi=>by
      rw [htd i]
      split
      · rw [t1];exact hts
      · exact v.ts i hi
    have v':Va ⟨z.X.W.S,z.X.W.Corrupt,z.X.W.Deviations,z.X.W.Tapes.set u tp⟩ n t:={ sup:=v.sup,N:=v.N,T:=v.T,n4:=v.n4,n13:=v.n13,t1:=v.t1,t3:=v.t3,cl:=v.cl,cr:=v.cr,dl:=v.dl,dv:=v.dv,ord:=v.ord,tl:=by show (z.X.W.Tapes.set u tp).length=n;rw [List.length_set];exact v.tl,tb:=htb,ts:=hts2,full:=v.full }
    have Q':Qs z.X.W.S.P n t (z.X.Q.set u (f' :: (z.X.Q.getD u []).drop 1)) (z.X.W.Tapes.set u tp):=by
      refine ⟨by rw [List.length_set];exact Q.len,by rw [List.length_set];exact v.tl,fun d hd=>?_,fun d hd=>?_,fun d hd k hk=>?_⟩
      · rw [hqd d,htd d]
        by_cases g:u=d
        · subst g;rw [if_pos rfl,if_pos rfl,hlen,t1];exact ⟨hm2,hmt⟩
        · rw [if_neg g,if_neg g];exact Q.many d hd
      · rw [htd d]
        by_cases g:u=d
        · subst g;rw [if_pos rfl,t1];exact ⟨hts,t2⟩
        · rw [if_neg g];exact Q.ts d hd
      · rw [hqd d] at hk ⊢
        by_cases g:u=d
        · subst g
          rw [if_pos rfl] at hk ⊢
          rw [hlen] at hk
          by_cases k0:k=0
          · subst k0;exact ⟨f1,f2⟩
          · rw [hqk k (by omega)];exact Q.w u hd k hk
        · rw [if_neg g] at hk ⊢;exact Q.w d hd k hk
    obtain ⟨res,views,T,er,hr,hvb,_,_,tr⟩:=run_ok v hn ht Q
    obtain ⟨res',views',T',er',hr',hvb',_,_,tr'⟩:=run_ok (x:=⟨⟨z.X.W.S,z.X.W.Corrupt,z.X.W.Deviations,z.X.W.Tapes.set u tp⟩,z.X.Q.set u (f' :: (z.X.Q.getD u []).drop 1)⟩) v' hn ht Q'
    have hmq:∀ d,((z.X.Q.set u (f' :: (z.X.Q.getD u []).drop 1)).getD d []).length=(z.X.Q.getD d []).length:=fun d=>by
      rw [hqd d]
      by_cases g:u=d
      · subst g;rw [if_pos rfl,hlen]
      · rw [if_neg g]
    have hSm:∀ k,k < (z.X.Q.getD u []).length→(Sm (z.X.Q.set u (f' :: (z.X.Q.getD u []).drop 1)) (z.X.W.Tapes.set u tp) t u).getD k []=mx ((f' :: (z.X.Q.getD u []).drop 1).getD k []) (rst tp t k):=fun k hk=>by
      rw [Sm_get (by rw [hmq u];exact hk),hqd u,htd u,if_pos rfl,if_pos rfl]
    have hM:=fun k hk=>Sm_mat (p:=z.X.W.S.P) hp.pos ht Q hu (k:=k) hk
    have hM':=fun k (hk:k < (z.X.Q.getD u []).length)=>Sm_mat (p:=z.X.W.S.P) hp.pos ht Q' hu (k:=k) (by rw [hmq u];exact hk)
    have hvw:=views_alike (w:=z.X.W) (q1:=z.X.Q) (q2:=z.X.Q.set u (f' :: (z.X.Q.getD u []).drop 1)) (T2:=z.X.W.Tapes.set u tp) v.toSc hn (by omega) hu huc hmq (fun d hd hdu=>by
        unfold Sm
        rw [hqd d,htd d,if_neg (fun h=>hdu h.symm),if_neg (fun h=>hdu h.symm)]) (fun k hk c hc hcr=>by
        by_cases k0:k=0
        · subst k0
          have hc1:c+1 < z.X.W.S.P:=by omega
          refine Rw_shift hp (D:=o z.X.W.S.P z.D) (hM 0 hk).2.1 (hM' 0 hk).2.1 (by omega) hc1 z1 ?_ (z4 c hc hcr)
          rw [hSm 0 hk,Sm_get hk]
          exact mx_shift ht w1 (rst_len hmt hk) f1 (rst_len (m:=(z.X.Q.getD u []).length) (by rw [t1];exact hmt) hk) z3 (fun i hi=>by
            show o z.X.W.S.P (f'.getD i 0)=_
            rw [f3 i hi,o_mod,o_add,o_mod,o_mul]) (fun a ha=>by rw [rst_get ha,rst_get ha];exact t3 a ha)
        · rw [hSm k hk,Sm_get hk,hqk k (by omega),rst_congr t1 t4 (by omega)]) (fun k hk x y hx hy=>pev_sym hp (hM k hk).2.1 (hM k hk).2.2 (by omega) hx hy) (fun k hk x y hx hy=>pev_sym hp (hM' k hk).2.1 (hM' k hk).2.2 (by omega) hx hy) tr tr'
    have hN':hon (⟨z.X.W.S,z.X.W.Corrupt,z.X.W.Deviations,z.X.W.Tapes.set u tp⟩:T_api_Scenario) n=hon z.X.W n:=rfl
    have hk0:0 < ((z.X.Q.set u (f' :: (z.X.Q.getD u []).drop 1)).getD u []).length:=by rw [hmq u];exact g0
    have hhu:Hn (⟨z.X.W.S,z.X.W.Corrupt,z.X.W.Deviations,z.X.W.Tapes.set u tp⟩:T_api_Scenario) u:=.inl huc
    have hrow:∀ i,i < n→((List.range n).map fun i=>((res'.Rows.getD i []).getD u []).getD 0 []).getD i []=((res'.Rows.getD i []).getD u []).getD 0 []:=fun i hi=>map_getD hi
    have hw:=fun i hi=>hr'.ww i hi u hu 0 hk0
    obtain ⟨c1,c2,_⟩:=cl0_ok hp (hM' 0 g0).2.1 (by omega) (show 0 < z.X.W.S.P by omega)
    have c0:(cl0 ((Sm (z.X.Q.set u (f' :: (z.X.Q.getD u []).drop 1)) (z.X.W.Tapes.set u tp) t u).getD 0 []) t).getD 0 0=f'.getD 0 0:=by
      unfold cl0
      rw [map_getD (by omega),hSm 0 g0]
      show ((mx f' _).getD 0 []).getD 0 0=_
      rw [mx_row ht f1 (rst_len (m:=(z.X.Q.getD u []).length) (by rw [t1];exact hmt) g0)]
    have hrec:=recon_hon (w:=⟨z.X.W.S,z.X.W.Corrupt,z.X.W.Deviations,z.X.W.Tapes.set u tp⟩) v' hn (r:=fun i=>((res'.Rows.getD i []).getD u []).getD 0 []) (f:=cl0 ((Sm (z.X.Q.set u (f' :: (z.X.Q.getD u []).drop 1)) (z.X.W.Tapes.set u tp) t u).getD 0 []) t) (fun i hi=>(hw i hi).2) c2 (by omega) (fun i hi hhi=>by
      have hi1:i+1 < z.X.W.S.P:=by omega
      have:=hr'.ok u hu hhu i hi hhi 0 hk0
      simp only at this
      show o z.X.W.S.P ((((res'.Rows.getD i []).getD u []).getD 0 []).getD 0 0)=_
      rw [this]
      exact (cl0_ok hp (hM' 0 g0).2.1 (by omega) hi1).2.2)
    rw [c0,hN'] at hrec
    simp only at hrec
    have hpts:rgS (fun k4 (st:(List T_api_Point))=>privitylaw19_VSSPerfectSecrecy_L4 ((hon z.X.W n).map fun i=>((i+1:Nat):Int)) ((List.range n).map fun i=>((res'.Rows.getD i []).getD u []).getD 0 []) k4 st) (hon z.X.W n).length 0 ([]:List T_api_Point)=some ((List.range (hon z.X.W n).length).map fun q=>(⟨(hon z.X.W n).getD q 0+1,(((res'.Rows.getD ((hon z.X.W n).getD q 0) []).getD u []).getD 0 []).getD 0 0⟩:T_api_Point)):=by
      have h:=pts19_ok (w:=z.X.W) (n:=n) (a:=(List.range n).map fun i=>((res'.Rows.getD i []).getD u []).getD 0 []) (by simp) (fun i hi=>by rw [hrow i hi,(hw i hi).1];omega) (by omega)
      have hL:privitylaw19_VSSPerfectSecrecy_L4=privitylaw19_VSSHonestSharesReconstruct_L2:=rfl
      rw [hL,h]
      exact congrArg some (List.map_congr_left fun q hq=>by
        have hq:q < (hon z.X.W n).length:=by simpa using hq
        rw [hrow _ (hon_get hq).1])
    rw [er,bS,sR,er',bS,sR]
    simp only
    rw [nT,cF,bS,cF,Nat.sub_zero,rgO_true (fun k _ hk=>by
      have hk:k < z.X.W.Corrupt.length:=by omega
      have hmem:=getD_in (d:=(0:Int)) hk
      have hcr:=v.cr _ hmem
      obtain ⟨c,hc⟩:∃ c:Nat,z.X.W.Corrupt.getD k 0=((c+1:Nat):Int):=⟨(z.X.W.Corrupt.getD k 0).toNat - 1,by omega⟩
      have hcn:c < n:=by omega
      have hcc:Cr z.X.W c:=by unfold Cr;rw [hc] at hmem;exact hmem
      unfold privitylaw19_VSSPerfectSecrecy_L3
      rw [ix 0 hk,bS,hc,view19_ok (net:=⟨z.X.W,7,views,T⟩) hvb hcn (by omega),bS,view19_ok (net:=⟨⟨z.X.W.S,z.X.W.Corrupt,z.X.W.Deviations,z.X.W.Tapes.set u tp⟩,7,views',T'⟩) hvb' hcn (by omega),bS]
      simp only
      rw [hvw c hcn hcc,same15_refl (Nat.le_trans (hvb'.2 c hcn) (by omega)),bS,nT,cF]),bS,oG,sharing19_ok (by omega) hr' hu hk0 (by rw [hmq u];exact hm2),bS,Nat.sub_zero,hpts,bS,v.T,hrec,bS]
    simp only
    have hx0:=Lt.get hp.pos w2 0
    have hDm:z.D*1 % z.X.W.S.P=z.D:=by rw [Nat.mul_one,Nat.mod_eq_of_lt hD]
    rw [eT rfl,cT,ix 0 (by rw [w1];omega),bS,refAdd_ok hp (by omega),bS,f3 0 (by omega),z3,hDm,eT rfl]
end Pu
