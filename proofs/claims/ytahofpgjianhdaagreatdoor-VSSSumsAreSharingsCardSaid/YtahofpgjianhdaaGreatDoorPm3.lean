/- Plain laws of chapter 19: sums of sharings are sharings. -/
import Derived.Test.YtahofpgjianhdaaGreatDoorPm2
set_option linter.unusedVariables false
namespace Pu
open Gw Gl Sp
/-- a sum word by word -/
def sumL (p t:Nat) (f g:List Nat):List Nat:=(List.range (t+1)).map fun j=>(f.getD j 0+g.getD j 0) % p
theorem sumL_len {p t:Nat} {f g:List Nat}:(sumL p t f g).length=t+1:=by simp [sumL]
section
variable {p:Nat} [NeZero p]
theorem sumL_ok (hp:Sup p) {t:Nat} {f g:List Nat} (hf:f.length≤t+1) (hg:g.length≤t+1):Lt p (sumL p t f g)∧∀ x,evl (P p (sumL p t f g)) x=evl (P p f) x+evl (P p g) x:=by
  refine ⟨Lt_map fun j _=>Nat.mod_lt _ hp.pos,fun x=>?_⟩
  rw [evl_P (n:=t+1) (by rw [sumL_len];exact Nat.le_refl _),evl_P (n:=t+1) hf,evl_P (n:=t+1) hg,← sm_add]
  refine sm_congr fun j hj=>?_
  unfold sumL
  rw [map_getD hj,o_mod,o_add];grind
theorem sumL_pev (hp:Sup p) {t x:Nat} {f g:List Nat} (hf:f.length≤t+1) (hg:g.length≤t+1) (hfp:Lt p f) (hgp:Lt p g) (ht:t≤900) (hx:x < p):o p (pev p (sumL p t f g) x)=o p (pev p f x)+o p (pev p g x)∧pev p (sumL p t f g) x < p:=by
  obtain ⟨h1,h2⟩:=sumL_ok hp hf hg
  obtain ⟨_,a1,a2⟩:=pev_ok hp h1 hx (by rw [sumL_len];omega)
  obtain ⟨_,_,b2⟩:=pev_ok hp hfp hx (by omega)
  obtain ⟨_,_,c2⟩:=pev_ok hp hgp hx (by omega)
  exact ⟨by rw [a2,b2,c2,h2],a1⟩
end
theorem addrow_ok {p:Nat} (hp:Sup p) {t:Nat} {a b:List Nat} (ha:a.length=t+1) (hb:b.length=t+1) (hap:Lt p a) (hbp:Lt p b) (ht:t≤900):shamir_words_1 a b p=some (sumL p t a b):=by
  have hlt:=hp.lt
  unfold shamir_words_1 shamir_pairs_uint64_uint64_shamir_words_1_1
  rw [ha,mkO_some (by omega) (by omega) (by omega) (by omega),bS,Int.toNat_natCast,Nat.sub_zero,rgS_put19 (fun j=>(a.getD j 0+b.getD j 0) % p) (by simp) (fun j l hj hl=>by
    have h1:=Lt.get hp.pos hap j
    have h2:=Lt.get hp.pos hbp j
    unfold shamir_pairs_uint64_uint64_shamir_words_1_1_L0 shamir_words_1_1
    rw [ix 0 (by omega),bS,ix 0 (by omega),bS,add_ok hp (by omega),bS,bS,ix 0 (by omega),bS,bS]),bS,bS]
  rfl
theorem addsh_ok {p:Nat} (hp:Sup p) {n t:Nat} {a b:List (List Nat)} (ha:a.length=n) (hb:b.length=n) (har:∀ i,i < n→(a.getD i []).length=t+1∧Lt p (a.getD i [])) (hbr:∀ i,i < n→(b.getD i []).length=t+1∧Lt p (b.getD i [])) (ht:t≤900) (hn:n≤900) :
    shamir_Add p a b=some ((List.range n).map fun i=>sumL p t (a.getD i []) (b.getD i [])):=by
  unfold shamir_Add shamir_words_field_Add shamir_pairs_Luint64_Luint64_shamir_words_1
  rw [ha,mkO_some (by omega) (by omega) (by omega) (by omega),bS,Int.toNat_natCast,Nat.sub_zero,rgS_put19 (fun i=>sumL p t (a.getD i []) (b.getD i [])) (by simp) (fun j l hj hl=>by
    unfold shamir_pairs_Luint64_Luint64_shamir_words_1_L0
    rw [ix [] (by omega),bS,ix [] (by omega),bS,addrow_ok hp (har j hj).1 (hbr j hj).1 (har j hj).2 (hbr j hj).2 ht,bS,ix [] (by omega),bS,bS]),bS,bS,bS]
theorem const_ok {s:T_api_Params} {n t:Nat} (hN:s.N=(n:Int)) (hT:s.T=(t:Int)) (hn:n≤100) (ht:t≤100):shamir_Constant s 0=some ((List.range n).map fun _=>List.replicate (t+1) 0):=by
  have hmx:max 0 s.N.toNat=n:=by rw [hN];simp
  have et:((t:Nat):Int)+1=((t+1:Nat):Int):=by omega
  unfold shamir_Constant
  rw [hmx,ckN_some (by omega),bS,Nat.sub_zero,rgS_tab' (fun _=>List.replicate (t+1) 0) (fun j l hj hl=>by
    unfold shamir_Constant_L0
    rw [hT,addI_some (by omega) (by omega),bS,et,mkO_some (by omega) (by omega) (by omega) (by omega),bS,Int.toNat_natCast,ix 0 (by simp),bS,bS,appO_some (by simp only [List.length_cons,List.length_nil];omega) (by simp only [List.length_cons,List.length_nil];omega),bS]
    rfl),bS]
theorem rows09_ok {p n t:Nat} {a:List (List Nat)} (ha:a.length=n) (har:∀ i,i < n→(a.getD i []).length=t+1∧Lt p (a.getD i [])) (hn:n≤900):privityref09_Rows p a ((n:Nat):Int) ((t+1:Nat):Int)=some true:=by
  have hmx:max 0 ((n:Nat):Int).toNat=n:=by simp
  unfold privityref09_Rows
  rw [ha,qF rfl,cF,hmx,ckN_some (by omega),bS,Nat.sub_zero,rgO_true (fun i _ hi=>by
    have hi:i < n:=by omega
    unfold privityref09_Rows_L0
    have hb:privityref05_Below p (a.getD i [])=some true:=by
      unfold privityref05_Below
      rw [Nat.sub_zero,rgO_true (fun j _ hj=>by
        have:=(har i hi).2 j (by omega)
        unfold privityref05_Below_L0
        rw [ix 0 (by omega),bS,dF (by omega),cF]),bS,oG]
    rw [ix [] (by omega),bS,(har i hi).1,qF rfl,cF,hb,bS,nT,cF]),bS,oG]
/-- the points of the honest parties -/
theorem pts19_ok {w:T_api_Scenario} {n:Nat} {a:List (List Nat)} (ha:a.length=n) (har:∀ i,i < n→0 < (a.getD i []).length) (hn:n≤13) :
    rgS (fun k2 (st:(List T_api_Point))=>privitylaw19_VSSHonestSharesReconstruct_L2 ((hon w n).map fun i=>((i+1:Nat):Int)) a k2 st) (hon w n).length 0 ([]:List T_api_Point)=some ((List.range (hon w n).length).map fun q=>(⟨(hon w n).getD q 0+1,(a.getD ((hon w n).getD q 0) []).getD 0 0⟩:T_api_Point)):=rgS_tab' _ (fun q l hq hl=>by
  obtain ⟨hi,_⟩:=hon_get hq
  have hql:q≤13:=by
    have:=List.length_filter_le (fun i=>decide (((i+1:Nat):Int) ∉ w.Corrupt)) (List.range n)
    rw [List.length_range] at this
    have hq:q < ((List.range n).filter fun i=>decide (((i+1:Nat):Int) ∉ w.Corrupt)).length:=hq
    omega
  have e3:(((hon w n).getD q 0+1:Nat):Int) - 1=(((hon w n).getD q 0:Nat):Int):=by omega
  have hu:toU (((hon w n).getD q 0+1:Nat):Int)=(hon w n).getD q 0+1:=by unfold toU;omega
  unfold privitylaw19_VSSHonestSharesReconstruct_L2
  rw [mapI 0 hq,bS,hu,bS,subI_some (by omega) (by omega),bS,e3,idx_getD [] (by omega) (by omega),bS,Int.toNat_natCast,ix 0 (har _ hi),bS,appO_some (by simp only [List.length_cons,List.length_nil];omega) (by simp only [List.length_cons,List.length_nil];omega),bS])
/-- a consistent sharing of s -/
structure Shd (w:T_api_Scenario) (n t:Nat) [NeZero w.S.P] (l:List (List Nat)) (s:Nat):Prop where
  len:l.length=n
  row:∀ i,i < n→(l.getD i []).length=t+1∧Lt w.S.P (l.getD i [])
  cs:∀ i,i < n→Hn w i→∀ j,j < n→Hn w j→pev w.S.P (l.getD i []) (j+1)=pev w.S.P (l.getD j []) (i+1)
  sp:∃ f,Lt w.S.P f∧f.length≤t+1∧f.getD 0 0=s∧∀ i,i < n→Hn w i→o w.S.P ((l.getD i []).getD 0 0)=evl (P w.S.P f) (o w.S.P (i+1))
theorem shd_rec {w:T_api_Scenario} [NeZero w.S.P] {n t s:Nat} (v:Va w n t) (hn:n≤7) {l:List (List Nat)} (h:Shd w n t l s):shamir_Reconstruct w.S.P ((t:Nat):Int) ((List.range (hon w n).length).map fun q=>(⟨(hon w n).getD q 0+1,(l.getD ((hon w n).getD q 0) []).getD 0 0⟩:T_api_Point))=some (s,0):=by
  obtain ⟨f,f1,f2,f3,f4⟩:=h.sp
  rw [← f3]
  exact recon_hon v hn (r:=fun i=>l.getD i []) (fun i hi=>(h.row i hi).2) f1 f2 f4
theorem shd_add {w:T_api_Scenario} [NeZero w.S.P] {n t s u:Nat} (v:Va w n t) (hn:n≤7) (ht:t≤2) {a b:List (List Nat)} (ha:Shd w n t a s) (hb:Shd w n t b u):Shd w n t ((List.range n).map fun i=>sumL w.S.P t (a.getD i []) (b.getD i [])) ((s+u) % w.S.P):=by
  have hp:=v.sup
  have hlt:=hp.lt
  have hg:∀ i,i < n→((List.range n).map fun i=>sumL w.S.P t (a.getD i []) (b.getD i [])).getD i []=sumL w.S.P t (a.getD i []) (b.getD i []):=fun i hi=>map_getD hi
  have ha1:=fun i hi=>Nat.le_of_eq (ha.row i hi).1
  have hb1:=fun i hi=>Nat.le_of_eq (hb.row i hi).1
  refine ⟨by simp,fun i hi=>by rw [hg i hi];exact ⟨sumL_len,(sumL_ok hp (ha1 i hi) (hb1 i hi)).1⟩,fun i hi hhi j hj hhj=>?_,?_⟩
  · rw [hg i hi,hg j hj]
    obtain ⟨e1,l1⟩:=sumL_pev hp (ha1 i hi) (hb1 i hi) (ha.row i hi).2 (hb.row i hi).2 (by omega) (show j+1 < w.S.P by omega)
    obtain ⟨e2,l2⟩:=sumL_pev hp (ha1 j hj) (hb1 j hj) (ha.row j hj).2 (hb.row j hj).2 (by omega) (show i+1 < w.S.P by omega)
    exact o_inj l1 l2 (by rw [e1,e2,ha.cs i hi hhi j hj hhj,hb.cs i hi hhi j hj hhj])
  · obtain ⟨f,f1,f2,f3,f4⟩:=ha.sp
    obtain ⟨g,g1,g2,g3,g4⟩:=hb.sp
    refine ⟨sumL w.S.P t f g,(sumL_ok hp f2 g2).1,by rw [sumL_len];exact Nat.le_refl _,?_,fun i hi hhi=>?_⟩
    · unfold sumL;rw [map_getD (by omega),f3,g3]
    · rw [hg i hi,(sumL_ok hp f2 g2).2,← f4 i hi hhi,← g4 i hi hhi]
      unfold sumL;rw [map_getD (by omega),o_mod,o_add]
theorem law_Sums (x:T_privitylaw19_Play) (hK:∀ y ∈ x.W.Deviations,y.K < 18446744073709551616):privitylaw19_VSSSumsAreSharings x=some true:=by
  unfold privitylaw19_VSSSumsAreSharings
  obtain ⟨b,e,hb⟩:=fair19_ok (q:=x.Q) hK
  rw [aw19,bS,nT,cF,e,bS]
  cases b with
  | false=>rw [nF,cT]
  | true =>
    obtain ⟨n,t,v,hn,ht,Q⟩:=hb rfl
    have hp:=v.sup
    haveI:NeZero x.W.S.P:=hp.ne
    have hlt:=hp.lt
    have ht3:=v.t3
    obtain ⟨res,views,T,er,hr,_,_,hc⟩:=run_ok v hn ht Q
    have hmx:max 1 (x.W.S.N+1).toNat=n+1:=by rw [v.N];omega
    have et:((t:Nat):Int)+1=((t+1:Nat):Int):=by omega
    rw [nT,cF,er,bS,sR]
    simp only
    rw [nT,cF,hons_ok v.toSc,bS,const_ok v.N v.T (by omega) (by omega),bS,hmx,ckN_some (by omega),bS,Nat.add_sub_cancel]
    obtain ⟨o',eo,ho⟩:=rgO_inv (body:=fun k1 (st:(List (List Nat)) × Nat)=>privitylaw19_VSSSumsAreSharings_L0 x ((⟨x.W,7,views,T⟩:T_network_Net),res,true) ((hon x.W n).map fun i=>((i+1:Nat):Int)) k1 st.1 st.2) (fun _ st=>Shd x.W n t st.1 st.2∧st.2 < x.W.S.P) (fun _=>False) (rem:=n) (k:=1) (s:=((List.range n).map fun _=>List.replicate (t+1) 0,0)) (by
        have hz:∀ i,i < n→((List.range n).map fun _=>List.replicate (t+1) 0).getD i []=List.replicate (t+1) 0:=fun i hi=>map_getD hi
        have hL:Lt x.W.S.P (List.replicate (t+1) 0):=fun c hc=>by
          rw [List.getD_eq_getElem?_getD,List.getElem?_replicate]
          split <;> exact hp.pos
        refine ⟨⟨by simp,fun i hi=>?_,fun i hi _ j hj _=>?_,[],fun i hi=>by simp at hi,by simp,rfl,fun i hi _=>?_⟩,by show 0 < x.W.S.P;omega⟩
        · simp only;rw [hz i hi];exact ⟨by simp,hL⟩
        · simp only;rw [hz i hi,hz j hj]
          obtain ⟨_,p1,e1⟩:=pev_ok hp hL (show j+1 < x.W.S.P by omega) (by simp;omega)
          obtain ⟨_,p2,e2⟩:=pev_ok hp hL (show i+1 < x.W.S.P by omega) (by simp;omega)
          exact o_inj p1 p2 (by rw [e1,e2,zero_row,zero_row])
        · simp only;rw [hz i hi,List.getD_eq_getElem?_getD,List.getElem?_replicate,if_pos (by omega)]
          exact o_zero) (fun a st ha1 ha ⟨h1,h2⟩=>by
        obtain ⟨l,s⟩:=st
        simp only at h1 h2
        obtain ⟨d,rfl⟩:∃ d,a=d+1:=⟨a - 1,by omega⟩
        have hd:d < n:=by omega
        have e0:((d+1:Nat):Int) - 1=((d:Nat):Int):=by omega
        have hm2:=(Q.many d hd).1
        unfold privitylaw19_VSSSumsAreSharings_L0
        simp only
        rw [subI_some (by omega) (by omega),bS,e0,idx_getD [] (by omega) (by rw [Q.len];omega),bS,Int.toNat_natCast]
        by_cases g:(x.Q.getD d []).length=0
        · rw [eT (by omega),cT]
          exact ⟨_,rfl,h1,h2⟩
        · have g:0 < (x.Q.getD d []).length:=by omega
          have hrow:∀ i,i < n→((List.range n).map fun i=>((res.Rows.getD i []).getD d []).getD 0 []).getD i []=((res.Rows.getD i []).getD d []).getD 0 []:=fun i hi=>map_getD hi
          have hw:=fun i hi=>hr.ww i hi d hd 0 g
          obtain ⟨f,f1,f2,f3⟩:=hc.sp d hd 0 g
          have hs:Shd x.W n t ((List.range n).map fun i=>((res.Rows.getD i []).getD d []).getD 0 []) (f.getD 0 0):=⟨by simp,fun i hi=>by rw [hrow i hi];exact hw i hi,fun i hi hhi j hj hhj=>by rw [hrow i hi,hrow j hj];exact hc.cs d hd 0 g i hi hhi j hj hhj,f,f1,f2,rfl,fun i hi hhi=>by rw [hrow i hi];exact f3 i hi hhi⟩
          have hpts:rgS (fun k2 (st:(List T_api_Point))=>privitylaw19_VSSSumsAreSharings_L1 ((hon x.W n).map fun i=>((i+1:Nat):Int)) ((List.range n).map fun i=>((res.Rows.getD i []).getD d []).getD 0 []) k2 st) (hon x.W n).length 0 ([]:List T_api_Point)=_:=pts19_ok (w:=x.W) (n:=n) (by simp) (fun i hi=>by rw [hrow i hi,(hw i hi).1];omega) (by omega)
          have hfp:=Lt.get hp.pos f1 0
          rw [eF (by omega),cF,sharing19_ok (by omega) hr hd g hm2,bS,List.length_map,Nat.sub_zero,hpts,bS,v.T,shd_rec v hn hs,bS]
          simp only
          rw [qF rfl,cF,refAdd_ok hp (by omega),bS,addsh_ok hp h1.len hs.len h1.row hs.row (by omega) (by omega),bS]
          exact ⟨_,rfl,shd_add v hn (by omega) h1 hs,Nat.mod_lt _ hp.pos⟩)
    cases o' with
    | fin b=>exact ho.elim
    | go st =>
      obtain ⟨l,s⟩:=st
      have ho:Shd x.W n t l s∧s < x.W.S.P:=ho
      obtain ⟨h1,h2⟩:=ho
      have hpts:rgS (fun k3 (st:(List T_api_Point))=>privitylaw19_VSSSumsAreSharings_L2 ((hon x.W n).map fun i=>((i+1:Nat):Int)) l k3 st) (hon x.W n).length 0 ([]:List T_api_Point)=_:=pts19_ok (w:=x.W) (n:=n) h1.len (fun i hi=>by rw [(h1.row i hi).1];omega) (by omega)
      rw [eo,bS,oG]
      simp only
      rw [v.T,addI_some (by omega) (by omega),bS,et,v.N,rows09_ok h1.len h1.row (by omega),bS,nT,cF,joined_ok v h1.len (fun i hi=>⟨by rw [(h1.row i hi).1];omega,(h1.row i hi).2⟩) h1.cs,bS,nT,bS,cF,List.length_map,Nat.sub_zero,hpts,bS,shd_rec v hn h1,bS]
      simp only
      rw [eT rfl,cT,eT rfl]
end Pu
