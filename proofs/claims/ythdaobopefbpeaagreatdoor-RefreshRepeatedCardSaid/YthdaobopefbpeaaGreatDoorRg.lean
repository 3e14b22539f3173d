/- Plain laws of refreshing: the judgement of the complaints. -/
import Derived.Test.YthdaobopefbpeaaGreatDoorRf
set_option linter.unusedVariables false
namespace Pu
open Gw Gl Sp
/-- opened rows are the honest parties' -/
theorem GF {net:ai} {n t m B:Nat} [NeZero net.zw.S.P] (s:Sc net.zw n t) {w:List (List (List Nat))} {ats:List Int} (hm:m≤400) (h1:w.length=m) (hm0:0 < m) (h2:∀ k,k < m→(w.getD k []).length=n∧∀ i,i < n→((w.getD k []).getD i []).length≤100∧Lt net.zw.S.P ((w.getD k []).getD i []))
    (h3:ats.length=m) {a:Nat→Nat} (h4:∀ k,k < m→ats.getD k 0=((a k+1:Nat):Int)∧a k < n) (hv:VB n B net.av) (hB:B≤500) (hr:0≤net.af∧net.af≤1000) {f0:Nat→List Nat}
    (hf:∀ k,k < m→(f0 k).length≤t+1∧∀ i,i < n→(((i:Nat):Int)+1) ∉ net.zw.ah→bU (P net.zw.S.P ((w.getD k []).getD i [])) (o net.zw.S.P (a k+1))=bU (P net.zw.S.P (f0 k)) (o net.zw.S.P (i+1))) :
    ∃ rows views,iq net w ats=some (rows,net.af+1,views)∧rows.length=n∧(∀ j,j < n→(rows.getD j []).length=m∧∀ k,k < m→((rows.getD j []).getD k []).length=t+1∧Lt net.zw.S.P ((rows.getD j []).getD k [])∧∀ i,o net.zw.S.P (((rows.getD j []).getD k []).getD i 0)=o net.zw.S.P ((f0 k).getD i 0))∧VB n (B+n) views:=by
  have hp:=s.sup
  obtain ⟨lists,all,rows,views,e,l1,sq,hall,rl,vl,hrow,hvw⟩:=rows_ok s hm h1 hm0 h2 h3 h4 hv.1 (fun j hj=>Nat.le_trans (hv.2 j hj) hB) hr
  refine ⟨rows,views,e,rl,fun j hj=>⟨(hrow j hj).1,fun k hk=>?_⟩,vl,fun j hj=>?_⟩
  · obtain ⟨pts,f,at_,e0,ep,ed,f1,f2,f3⟩:=(hrow j hj).2 k hk
    obtain ⟨pts',f',at',ep',ed',g1,g2,g3⟩:=FE s sq (k:=k) hj (hf k hk).1 (fun i hi hc=>by
      rw [hall i hi hc j hj,((l1 i hi).2 k hk).2,(hf k hk).2 i hi hc])
    have h5:=Option.some.inj (ep.symm.trans ep')
    subst h5
    have h6:=Option.some.inj (ed.symm.trans ed')
    have h7:f=f':=congrArg Prod.fst h6
    subst h7
    have hg:∀ i,(f++List.replicate (t+1 - f.length) 0).getD i 0=f.getD i 0:=fun i=>by
      rw [List.getD_eq_getElem?_getD,List.getD_eq_getElem?_getD]
      by_cases g:i < f.length
      · rw [List.getElem?_append_left g]
      · rw [List.getElem?_append_right (by omega),List.getElem?_eq_none (show f.length≤i by omega),List.getElem?_replicate]
        split <;> rfl
    rw [f3]
    refine ⟨by rw [List.length_append,List.length_replicate];omega,fun i hi=>?_,fun i=>?_⟩
    · rw [hg];exact f1.get hp.pos i
    · rw [hg];exact g3.1 i
  · rw [hvw j hj,List.length_append]
    have:=hv.2 j hj
    have:(Aw net.af all j n).length≤n:=zb
    omega
theorem Gy {k:Nat}:List.range (2*(k+1))=List.range (2*k)++[2*k,2*k+1]:=by
  show List.range (2*k+1+1)=_
  rw [List.range_succ,List.range_succ,List.append_assoc];rfl
/-- the opened pair does not fit -/
def KP (p:Nat) [NeZero p] (F0:Nat→Nat→Nat→List Nat) (c:Nat × Nat × Nat):Prop:=o p ((F0 c.2.1 (2*c.2.2+1) c.1).getD 0 0)≠o p (c.1+1)*o p ((F0 c.2.1 (2*c.2.2) c.1).getD 0 0)
theorem Nn {p:Nat} [NeZero p] {i:Nat} {u q:List Nat} (hp:fG p) (hq:Lt p q):hl p i u q=true ↔ o p (q.getD 0 0)=o p (i+1)*o p (u.getD 0 0):=by
  unfold hl
  rw [decide_eq_true_iff,← oK]
  constructor
  · intro h;rw [h,kR]
  · intro h
    refine oJ (hq.get hp.pos 0) (Nat.mod_lt _ hp.pos) ?_
    rw [h,kR]
/-- what is opened: sharing q of the list -/
def JF (res:bi) (n:Nat) (cl:List (Nat × Nat × Nat)) (q:Nat):List (List Nat):=shr res n (cl.getD (q / 2) (0,0,0)).2.1 (2*(cl.getD (q / 2) (0,0,0)).2.2+q % 2)
def Hi (cl:List (Nat × Nat × Nat)) (q:Nat):Nat:=(cl.getD (q / 2) (0,0,0)).1
theorem DV {net:ai} {S:aM} {p n t m:Nat} {mi:Int} {res:bi} (F:Fm p n t (2*m) res) (hn:n≤7) (hm3:m≤3) {cl:List (Nat × Nat × Nat)} (hl:cl.length≤200) (hc:∀ c ∈ cl,c.1 < n∧c.2.1 < n∧c.2.2 < m) :
    du (fun k1 (st:(List (List (List Nat))) × (List Int))=>em ⟨net,S,mi,res⟩ (cl.map toC) k1 st.1 st.2) cl.length 0 ([],[])=some ((List.range (2*cl.length)).map (JF res n cl),(List.range (2*cl.length)).map fun q=>((Hi cl q+1:Nat):Int)):=by
  obtain ⟨r,e,h⟩:=bg (body:=fun k1 (st:(List (List (List Nat))) × (List Int))=>em ⟨net,S,mi,res⟩ (cl.map toC) k1 st.1 st.2) (fun k st=>st=((List.range (2*k)).map (JF res n cl),(List.range (2*k)).map fun q=>((Hi cl q+1:Nat):Int))) (rem:=cl.length) (k:=0) (s:=([],[])) rfl (fun k st _ hk hst=>by
    have hkl:k < cl.length:=by omega
    obtain ⟨c1,c2,c3⟩:=hc _ (getD_in (d:=(0,0,0)) hkl)
    have hg:(cl.map toC)[k]?=some (toC (cl.getD k (0,0,0))):=by rw [List.getElem?_map,ix (0,0,0) hkl];rfl
    have d1:2*k / 2=k:=by omega
    have d2:(2*k+1) / 2=k:=by omega
    have d3:2*k % 2=0:=by omega
    have d4:(2*k+1) % 2=1:=by omega
    have o1:JF res n cl (2*k)=shr res n (cl.getD k (0,0,0)).2.1 (2*(cl.getD k (0,0,0)).2.2):=by unfold JF;rw [d1,d3];rfl
    have o2:JF res n cl (2*k+1)=shr res n (cl.getD k (0,0,0)).2.1 (2*(cl.getD k (0,0,0)).2.2+1):=by unfold JF;rw [d2,d4]
    have o3:Hi cl (2*k)=(cl.getD k (0,0,0)).1:=by unfold Hi;rw [d1]
    have o4:Hi cl (2*k+1)=(cl.getD k (0,0,0)).1:=by unfold Hi;rw [d2]
    subst hst
    unfold em
    simp only
    rw [hg,bS]
    unfold toC
    simp only
    rw [zG F (by omega) (by omega) c2 (by omega),bS,aI (by simp only [List.length_cons,List.length_nil,dJ];omega) (by simp only [List.length_cons,List.length_nil,dJ];omega),bS,aI (by simp only [List.length_cons,List.length_nil,dJ];omega) (by simp only [List.length_cons,List.length_nil,dJ];omega),bS]
    refine ⟨_,rfl,?_⟩
    rw [Gy,List.map_append,List.map_append]
    simp only [List.map_cons,List.map_nil,o1,o2,o3,o4])
  rw [e,h,Nat.zero_add]
theorem FK {net:ai} {n t m B:Nat} [NeZero net.zw.S.P] {mi:Int} {res:bi} (s:Sc net.zw n t) (F:Fm net.zw.S.P n t (2*m) res) (hn:n≤7) (ht:t≤2) (hm3:m≤3) {cl:List (Nat × Nat × Nat)} (hcl:cl.length≤200) (hc:∀ c ∈ cl,c.1 < n∧c.2.1 < n∧c.2.2 < m)
    (hv:VB n B net.av) (hB:B≤500) (hr:0≤net.af∧net.af≤1000) {F0:Nat→Nat→Nat→List Nat}
    (hf:∀ d,d < n→∀ k,k < 2*m→∀ b,b < n→(F0 d k b).length≤t+1∧∀ i,i < n→(((i:Nat):Int)+1) ∉ net.zw.ah→bU (P net.zw.S.P (Ba res i d k)) (o net.zw.S.P (b+1))=bU (P net.zw.S.P (F0 d k b)) (o net.zw.S.P (i+1))) :
    ∃ out round views,jp ⟨net,net.zw.S,mi,res⟩ (cl.map toC)=some (out,round,views)∧out.length=n∧(∀ d,d < n→(out.getD d false=true ↔ res.be.getD d false=true ∨ ∃ c ∈ cl,c.2.1=d∧KP net.zw.S.P F0 c))∧VB n (B+n) views∧net.af≤round∧round≤net.af+1:=by
  have hp:=s.sup
  have hlt:=hp.lt
  have h4:=s.n4
  unfold jp
  simp only
  rw [aI (by rw [F.dl];simp only [List.length_nil];omega) (by rw [F.dl];simp only [List.length_nil];omega),bS,List.nil_append,List.length_map,Nat.sub_zero,DV F hn hm3 hcl hc,bS]
  simp only
  by_cases h0:cl.length=0
  · have:cl=[]:=List.length_eq_zero_iff.1 h0
    subst this
    unfold iq bk
    rw [bS,s.N,cc (by omega) (by omega) (by omega) (by omega),bS,eT (by rfl),cT,bS]
    show ∃ out round views,(some res.be >>= fun l9=>some (l9,net.af,net.av))=_∧_
    rw [bS]
    refine ⟨_,_,_,rfl,F.dl,fun d hd=>⟨fun h=>.inl h,fun h=>?_⟩,⟨hv.1,fun j hj=>by have:=hv.2 j hj;omega⟩,by omega,by omega⟩
    rcases h with h | ⟨c,hc,_⟩
    · exact h
    · cases hc
  have hC:∀ q,q < 2*cl.length→(cl.getD (q / 2) (0,0,0)).1 < n∧(cl.getD (q / 2) (0,0,0)).2.1 < n∧(cl.getD (q / 2) (0,0,0)).2.2 < m:=fun q hq=>hc _ (getD_in (by omega))
  obtain ⟨rows,views,er,r1,r2,r3⟩:=GF (m:=2*cl.length) (a:=Hi cl) (B:=B) (w:=(List.range (2*cl.length)).map (JF res n cl)) (ats:=(List.range (2*cl.length)).map fun q=>((Hi cl q+1:Nat):Int)) s (by omega) dJ (by omega) (fun q hq=>by
      obtain ⟨c1,c2,c3⟩:=hC q hq
      rw [dt hq]
      unfold JF
      refine ⟨xi,fun i hi=>?_⟩
      rw [kz hi]
      obtain ⟨w1,w2⟩:=F.ww i hi _ c2 (2*(cl.getD (q / 2) (0,0,0)).2.2+q % 2) (by omega)
      exact ⟨by omega,w2⟩) dJ (fun q hq=>⟨dt hq,(hC q hq).1⟩) hv hB hr (f0:=fun q=>F0 (cl.getD (q / 2) (0,0,0)).2.1 (2*(cl.getD (q / 2) (0,0,0)).2.2+q % 2) (Hi cl q)) (fun q hq=>by
      obtain ⟨c1,c2,c3⟩:=hC q hq
      obtain ⟨g1,g2⟩:=hf _ c2 (2*(cl.getD (q / 2) (0,0,0)).2.2+q % 2) (by omega) _ c1
      refine ⟨g1,fun i hi hci=>?_⟩
      rw [dt hq]
      unfold JF
      rw [kz hi]
      exact g2 i hi hci)
  rw [er,bS]
  simp only
  obtain ⟨q1,q2⟩:=r2 0 (by omega)
  have hgr:rows[0]?=some (rows.getD 0 []):=ix [] (by omega)
  generalize rows.getD 0 []=R0 at *
  have hfit:∀ k,k < cl.length→(hl net.zw.S.P (cl.getD k (0,0,0)).1 (R0.getD (2*k) []) (R0.getD (2*k+1) [])=false ↔ KP net.zw.S.P F0 (cl.getD k (0,0,0))):=fun k hk=>by
    have d1:2*k / 2=k:=by omega
    have d2:(2*k+1) / 2=k:=by omega
    have d3:2*k % 2=0:=by omega
    have d4:(2*k+1) % 2=1:=by omega
    obtain ⟨a1,a2,a3⟩:=q2 (2*k) (by omega)
    obtain ⟨b1,b2,b3⟩:=q2 (2*k+1) (by omega)
    have a3:=a3 0
    have b3:=b3 0
    unfold Hi at a3 b3
    rw [d1,d3,Nat.add_zero] at a3
    rw [d2,d4] at b3
    have:=Nn (i:=(cl.getD k (0,0,0)).1) (u:=R0.getD (2*k) []) hp b2
    unfold KP
    rw [← Bool.not_eq_true,this,a3,b3]
  obtain ⟨out,eo,o1,o2⟩:=bg (body:=fun k2 (st:(List Bool))=>jT ⟨net,net.zw.S,mi,res⟩ (cl.map toC) (rows,net.af+1,views) k2 st)
    (fun k l=>l.length=n∧∀ d,d < n→(l.getD d false=true ↔ res.be.getD d false=true ∨ ∃ i,i < k∧(cl.getD i (0,0,0)).2.1=d∧KP net.zw.S.P F0 (cl.getD i (0,0,0)))) (rem:=cl.length) (k:=0) (s:=res.be)
    ⟨F.dl,fun d hd=>⟨fun h=>.inl h,fun h=>by
      rcases h with h | ⟨i,hi,_⟩
      · exact h
      · omega⟩⟩ (fun k l _ hk ⟨o1,o2⟩=>by
      have hkl:k < cl.length:=by omega
      obtain ⟨c1,c2,c3⟩:=hc _ (getD_in (d:=(0,0,0)) hkl)
      have hg:(cl.map toC)[k]?=some (toC (cl.getD k (0,0,0))):=by rw [List.getElem?_map,ix (0,0,0) hkl];rfl
      have e1:(2:Int)*((k:Nat):Int)=((2*k:Nat):Int):=by omega
      have e2:((2*k:Nat):Int)+1=((2*k+1:Nat):Int):=by omega
      obtain ⟨a1,a2,a3⟩:=q2 (2*k) (by omega)
      obtain ⟨b1,b2,b3⟩:=q2 (2*k+1) (by omega)
      have hfk:=hfit k hkl
      generalize hck:cl.getD k (0,0,0)=c at *
      unfold jT
      simp only
      rw [hg,bS,hgr,bS,eM (by omega) (by omega),bS,e1,aU [] (by omega) (by omega),bS,Int.toNat_natCast,bh (by omega) (by omega),bS,e2,aU [] (by omega) (by omega),bS,Int.toNat_natCast]
      unfold toC
      simp only
      rw [AG (p:=net.zw.S.P) hp rfl (by omega) a2 (by omega) (by omega),bS]
      cases hh:hl net.zw.S.P c.1 (R0.getD (2*k) []) (R0.getD (2*k+1) [])
      · have e3:((c.2.1+1:Nat):Int) - 1=((c.2.1:Nat):Int):=by omega
        rw [nF,cT,cD (by omega) (by omega),bS,e3,aU false (by omega) (by omega),bS,Int.toNat_natCast,bS]
        refine ⟨_,rfl,by rw [List.length_set];exact o1,fun d hd=>?_⟩
        rw [aL (by omega)]
        by_cases g:c.2.1=d
        · rw [if_pos g]
          exact ⟨fun _=>.inr ⟨k,by omega,by rw [hck];exact ⟨g,hfk.1 hh⟩⟩,fun _=>rfl⟩
        · rw [if_neg g,o2 d hd]
          refine or_congr_right ⟨fun ⟨i,hi,h⟩=>⟨i,by omega,h⟩,fun ⟨i,hi,h⟩=>?_⟩
          by_cases gi:i=k
          · subst gi;rw [hck] at h;exact absurd h.1 g
          · exact ⟨i,by omega,h⟩
      · rw [nT,cF]
        refine ⟨_,rfl,o1,fun d hd=>?_⟩
        rw [o2 d hd]
        refine or_congr_right ⟨fun ⟨i,hi,h⟩=>⟨i,by omega,h⟩,fun ⟨i,hi,h⟩=>?_⟩
        by_cases gi:i=k
        · subst gi;rw [hck] at h
          rw [hfk.2 h.2] at hh;cases hh
        · exact ⟨i,by omega,h⟩)
  rw [Nat.zero_add] at o2
  rw [eo,bS]
  refine ⟨out,_,views,rfl,o1,fun d hd=>?_,r3,by omega,by omega⟩
  rw [o2 d hd]
  refine or_congr_right ⟨fun ⟨i,hi,h⟩=>⟨_,getD_in hi,h⟩,fun ⟨c,hcm,h⟩=>?_⟩
  obtain ⟨i,hi,rfl⟩:=List.getElem_of_mem hcm
  refine ⟨i,hi,?_⟩
  have:cl.getD i (0,0,0)=cl[i]:=by rw [List.getD_eq_getElem?_getD,List.getElem?_eq_getElem hi];rfl
  rw [this];exact h
end Pu

/- Plain laws of refreshing: drawing, and the sharings of nothing. -/
set_option linter.unusedVariables false
namespace Pu
open Gw Gl Sp
/-- the words of the k-th pair -/
def Hh (l:List Nat) (a t k:Nat):List Nat:=(l.drop (a+k*t)).take t
/-- the first rows that a dealer draws -/
def Bo (l:List Nat) (a t q:Nat):List Nat:=if q % 2=0 then Hh l a t (q / 2)++[0] else 0 :: Hh l a t (q / 2)
theorem Cu {l:List Nat} {a t k m:Nat} (h:a+m*t≤l.length) (hk:k < m):(Hh l a t k).length=t:=by
  unfold Hh
  have:k*t+t≤m*t:=by rw [← Nat.succ_mul];exact Nat.mul_le_mul_right t hk
  rw [List.length_take,List.length_drop];omega
theorem K3 {p:Nat} (hp:0 < p) {l:List Nat} (hl:Lt p l) {a t q m:Nat} (h:a+m*t≤l.length) (hq:q < 2*m):(Bo l a t q).length=t+1∧Lt p (Bo l a t q):=by
  have hk:q / 2 < m:=by omega
  have h1:=Cu h hk
  have h2:∀ i,(Hh l a t (q / 2)).getD i 0 < p:=fun i=>by
    unfold Hh
    rw [List.getD_eq_getElem?_getD,List.getElem?_take]
    split
    · rw [List.getElem?_drop,← List.getD_eq_getElem?_getD];exact hl.get hp _
    · exact hp
  unfold Bo
  split
  · refine ⟨by rw [List.length_append,h1];rfl,fun i hi=>?_⟩
    rw [List.length_append,h1] at hi
    by_cases g:i < t
    · rw [cq (by omega)];exact h2 i
    · have hi:i < t+1:=hi
      rw [cO (by omega)];exact hp
  · refine ⟨by rw [List.length_cons,h1],fun i hi=>?_⟩
    cases i with
    | zero=>exact hp
    | succ i=>exact h2 i
theorem HE {net:ai} {S:aM} {n t m d:Nat} {dd:bi} (hT:S.T=(t:Int)) (ht:t≤2) (hm:m≤3) (hn:n≤7) (hd:d < n) (hl:net.al.length=n) {l:List Nat} {a:Nat} (ha:net.al.getD d ⟨[],0⟩=⟨l,((a:Nat):Int)⟩) (h:a+m*t≤l.length) (hl2:l.length≤1000) :
    ∃ T,jS ⟨net,S,((m:Nat):Int),dd⟩ ((d+1:Nat):Int)=some ((List.range (2*m)).map (Bo l a t),T)∧T.length=n∧T.getD d ⟨[],0⟩=⟨l,((a+m*t:Nat):Int)⟩∧∀ j,j≠d→T.getD j ⟨[],0⟩=net.al.getD j ⟨[],0⟩:=by
  have e0:max 0 ((m:Nat):Int).toNat=m:=by omega
  have e1:((d+1:Nat):Int) - 1=((d:Nat):Int):=by omega
  unfold jS
  simp only
  rw [e0,bP (by omega),bS,Nat.sub_zero]
  obtain ⟨r,er,r1,r2,r3,r4⟩:=bg (body:=fun k1 (st:(List aC) × (List (List Nat)))=>fF ⟨net,S,((m:Nat):Int),dd⟩ ((d+1:Nat):Int) k1 st.1 st.2)
    (fun k st=>st.1.length=n∧st.1.getD d ⟨[],0⟩=⟨l,((a+k*t:Nat):Int)⟩∧(∀ j,j≠d→st.1.getD j ⟨[],0⟩=net.al.getD j ⟨[],0⟩)∧st.2=(List.range (2*k)).map (Bo l a t)) (rem:=m) (k:=0) (s:=(net.al,[]))
    ⟨hl,by rw [Nat.zero_mul];exact ha,fun _ _=>rfl,rfl⟩ (fun k st _ hk ⟨r1,r2,r3,r4⟩=>by
      obtain ⟨T,q⟩:=st
      simp only at r1 r2 r3 r4
      have hkm:k < m:=by omega
      have h1:k*t+t≤m*t:=by rw [← Nat.succ_mul];exact Nat.mul_le_mul_right t hkm
      have hwl:=Cu h hkm
      have d1:2*k / 2=k:=by omega
      have d2:(2*k+1) / 2=k:=by omega
      have d3:2*k % 2=0:=by omega
      have d4:(2*k+1) % 2=1:=by omega
      have o1:Bo l a t (2*k)=Hh l a t k++[0]:=by unfold Bo;rw [if_pos d3,d1]
      have o2:Bo l a t (2*k+1)=0 :: Hh l a t k:=by unfold Bo;rw [if_neg (by omega),d2]
      unfold fF fK
      simp only
      rw [cD (by omega) (by omega),bS,e1,aU ⟨[],0⟩ (by omega) (by omega),bS,bS,Int.toNat_natCast,ix ⟨[],0⟩ (by omega),bS,r2,hT,C6 (by omega) hl2,bS]
      simp only
      rw [bS]
      show ∃ s',(cI 8 ([]:List Nat) (Hh l a t k) >>= _)=some s'∧_
      rw [aI (by rw [hwl];simp only [List.length_nil];omega) (by rw [hwl];simp only [List.length_nil];omega),bS,List.nil_append,aI (by rw [hwl];simp only [List.length_cons,List.length_nil];omega) (by rw [hwl];simp only [List.length_cons,List.length_nil];omega),bS]
      show ∃ s',(cI 8 ([0]:List Nat) (Hh l a t k) >>= _)=some s'∧_
      rw [aI (by rw [hwl];simp only [List.length_cons,List.length_nil];omega) (by rw [hwl];simp only [List.length_cons,List.length_nil];omega),bS,aI (by rw [r4,dJ];simp only [List.length_cons,List.length_nil];omega) (by rw [r4,dJ];simp only [List.length_cons,List.length_nil];omega),bS]
      refine ⟨_,rfl,by simp only [List.length_set];exact r1,?_,fun j hj=>?_,?_⟩
      · simp only
        rw [aL (by omega),if_pos rfl,Nat.succ_mul,Nat.add_assoc]
      · simp only
        rw [aL (by omega),if_neg (fun e=>hj e.symm)];exact r3 j hj
      · simp only
        rw [Gy,List.map_append,r4]
        simp only [List.map_cons,List.map_nil,o1,o2];rfl)
  obtain ⟨T,q⟩:=r
  simp only at r1 r2 r3 r4
  rw [er,bS]
  rw [Nat.zero_add] at r2 r4
  subst r4
  exact ⟨T,rfl,r1,r2,r3⟩
/-- what is drawn by all -/
def HF (n t m:Nat) (tp:Nat→List Nat) (ps:Nat→Nat):List (List (List Nat)):=(List.range n).map fun d=>(List.range (2*m)).map (Bo (tp d) (ps d) t)
theorem E6 {net:ai} {S:aM} {n t m:Nat} (hN:S.N=(n:Int)) (hT:S.T=(t:Int)) (ht:t≤2) (hm:m≤3) (hn:n≤7) {tp:Nat→List Nat} {ps:Nat→Nat} (hts:yj n net.al tp ps) (h:∀ d,d < n→ps d+m*t≤(tp d).length) {r1:ae} (hr1:r1.S=S) :
    ∃ T,du (fun k1 (st:(List aC) × (List (List (List (List Nat)))) × (List Bool) × (List (List (List Nat))))=>dP net ((m:Nat):Int) r1 k1 st.1 st.2.1 st.2.2.1 st.2.2.2) n 1 (net.al,[],[],[])=some (T,[],[],HF n t m tp ps)∧yj n T tp (fun i=>ps i+m*t):=by
  obtain ⟨r,er,q1,q2,q3,q4⟩:=bg (body:=fun k1 (st:(List aC) × (List (List (List (List Nat)))) × (List Bool) × (List (List (List Nat))))=>dP net ((m:Nat):Int) r1 k1 st.1 st.2.1 st.2.2.1 st.2.2.2)
    (fun k st=>st.1.length=n∧(∀ j,j < n→st.1.getD j ⟨[],0⟩=if j+1 < k then ⟨tp j,((ps j+m*t:Nat):Int)⟩ else ⟨tp j,((ps j:Nat):Int)⟩)∧(st.2.1=[]∧st.2.2.1=[])∧st.2.2.2=(List.range (k - 1)).map fun d=>(List.range (2*m)).map (Bo (tp d) (ps d) t)) (rem:=n) (k:=1) (s:=(net.al,[],[],[]))
    ⟨hts.len,fun j hj=>by rw [if_neg (by omega)];exact hts.at_ j hj,⟨rfl,rfl⟩,rfl⟩ (fun k st h1 hk ⟨q1,q2,q3,q4⟩=>by
      obtain ⟨T,l3,l4,l5⟩:=st
      simp only at q1 q2 q3 q4
      obtain ⟨d,rfl⟩:∃ d,k=d+1:=⟨k - 1,by omega⟩
      have hd:d < n:=by omega
      have hT0:=q2 d hd
      rw [if_neg (by omega)] at hT0
      obtain ⟨T2,e,t1,t2,t3⟩:=HE (net:=⟨net.zw,net.af,net.av,T⟩) (S:=S) (dd:=⟨l3,l4⟩) hT ht hm hn hd q1 hT0 (h d hd) (hts.le d hd).2
      have hl5:l5.length≤7:=by rw [q4,dJ];omega
      unfold dP
      rw [hr1,e,bS,aI (by simp only [List.length_cons,List.length_nil];omega) (by simp only [List.length_cons,List.length_nil];omega),bS]
      refine ⟨_,rfl,t1,fun j hj=>?_,q3,?_⟩
      · simp only
        by_cases g:j=d
        · subst g;rw [if_pos (by omega)];exact t2
        · rw [t3 j g]
          have:=q2 j hj
          simp only
          rw [this]
          by_cases g2:j < d
          · rw [if_pos (by omega),if_pos (by omega)]
          · rw [if_neg (by omega),if_neg (by omega)]
      · simp only
        rw [q4,Nat.add_sub_cancel,Nat.add_sub_cancel,List.range_succ,List.map_append];rfl)
  obtain ⟨T,l3,l4,l5⟩:=r
  simp only at q1 q2 q3 q4
  obtain ⟨rfl,rfl⟩:=q3
  rw [Nat.add_sub_cancel_left] at q4
  rw [er,q4]
  refine ⟨T,rfl,q1,fun j hj=>?_,fun j hj=>⟨h j hj,(hts.le j hj).2⟩⟩
  rw [q2 j hj,if_pos (by omega)]
theorem K2 {p n t m:Nat} (hp:0 < p) (ht:t=1 ∨ t=2) (hm3:m≤3) {T:List aC} {tp:Nat→List Nat} {ps:Nat→Nat} (hts:yj n T tp ps) (h:∀ d,d < n→ps d+m*(t+t*(t+1))≤(tp d).length) (hlt:∀ d,d < n→Lt p (tp d)) :
    Qs p n t (HF n t m tp ps) (rem n tp fun i=>ps i+m*t)∧∀ d,d < n→((HF n t m tp ps).getD d []).length=2*m:=by
  have hq:∀ d,d < n→(HF n t m tp ps).getD d []=(List.range (2*m)).map (Bo (tp d) (ps d) t):=fun d hd=>dt hd
  refine ⟨⟨dJ,by simp [rem],fun d hd=>?_,fun d hd=>?_,fun d hd k hk=>?_⟩,fun d hd=>by rw [hq d hd,dJ]⟩
  · rw [hq d hd,dJ,xh hd,List.length_drop]
    have:=h d hd
    rcases ht with rfl | rfl
    · exact ⟨by omega,by show 2*m*1≤_;omega⟩
    · exact ⟨by omega,by show 2*m*3≤_;omega⟩
  · rw [xh hd,List.length_drop]
    refine ⟨by have:=(hts.le d hd).2;omega,fun i hi=>?_⟩
    rw [List.getD_eq_getElem?_getD,List.getElem?_drop,← List.getD_eq_getElem?_getD]
    exact (hlt d hd).get hp _
  · rw [hq d hd,dJ] at hk
    rw [hq d hd,dt hk]
    refine K3 hp (hlt d hd) (m:=m) ?_ hk
    have:=h d hd
    rcases ht with rfl | rfl <;> omega
/-- sharings stand -/
theorem Com.std {w:ae} [NeZero w.S.P] {q:List (List (List Nat))} {n t c:Nat} {res:bi} (s:Sc w n t) (C:Com w q n t res) (F:Fm w.S.P n t c res) (hc:∀ d,d < n→(q.getD d []).length=c) {d k:Nat} (hd:d < n) (hk:k < c):∃ z,wA w n t (shr res n d k) z:=by
  have hp:=s.sup
  have hlt:=hp.lt
  have h13:=s.n13
  have h3:=s.t3
  have hk':k < (q.getD d []).length:=by rw [hc d hd];exact hk
  obtain ⟨f0,a1,a2,a3⟩:=C.sp d hd k hk' 0
  refine ⟨bU (P w.S.P f0) 0,xi,fun i hi=>by rw [kz hi];exact F.ww i hi d hd k hk,fun i hi hhi j hj hhj=>?_,fun y=>?_⟩
  · rw [kz hi,kz hj]
    obtain ⟨b1,b2⟩:=F.ww i hi d hd k hk
    obtain ⟨c1,c2⟩:=F.ww j hj d hd k hk
    have e1:=(jd hp b2 (show j+1 < w.S.P by omega) (by omega)).2.2
    have e2:=(jd hp c2 (show i+1 < w.S.P by omega) (by omega)).2.2
    rw [← e1,← e2]
    exact congrArg _ (C.cs d hd k hk' i hi hhi j hj hhj)
  · by_cases g:y=0
    · subst g
      exact ⟨P w.S.P f0,by rw [lD];exact a2,fun i hi hh=>by rw [kz hi];exact a3 i hi hh,fun _=>rfl⟩
    · obtain ⟨f,b1,b2,b3⟩:=C.sp d hd k hk' y
      exact ⟨P w.S.P f,by rw [lD];exact b2,fun i hi hh=>by rw [kz hi];exact b3 i hi hh,fun h=>absurd h g⟩
section
variable {w:ae} [NeZero w.S.P] {n t:Nat}
/-- where q is x times u, q is 0 at 0 -/
theorem Kg (s:Sc w n t) {U Q:List (List Nat)} {a b:Fin w.S.P} (A:wA w n t U a) (B:wA w n t Q b) (h:∀ i,i < n→(((i:Nat):Int)+1) ∉ w.ah→o w.S.P ((Q.getD i []).getD 0 0)=o w.S.P (i+1)*o w.S.P ((U.getD i []).getD 0 0)):b=0:=by
  have h1:=s.t1
  obtain ⟨f,f1,f2,_⟩:=A.sp 0
  obtain ⟨g,g1,g2,g3⟩:=B.sp 0
  have:=zx s (f:=g) (g:=0 :: f) (by omega) (by rw [List.length_cons];omega) (fun i hi hc=>by
    rw [← g2 i hi (.inl hc),xz,h i hi hc,bU,← f2 i hi (.inl hc),xz];grind) 0
  rw [← g3 rfl,y9,this,oP]
/-- what is opened for an honest party -/
theorem AW (s:Sc w n t) {a:List (List Nat)} {c:Fin w.S.P} (A:wA w n t a c) {b:Nat} (hb:b < n) (hcb:(((b:Nat):Int)+1) ∉ w.ah) {f:List Nat} (hf:f.length≤t+1) (h:∀ i,i < n→(((i:Nat):Int)+1) ∉ w.ah→bU (P w.S.P (a.getD i [])) (o w.S.P (b+1))=bU (P w.S.P f) (o w.S.P (i+1))):o w.S.P (f.getD 0 0)=o w.S.P ((a.getD b []).getD 0 0):=by
  have:=zx s (f:=P w.S.P f) (g:=P w.S.P (a.getD b [])) (by rw [lD];omega) (by rw [lD,(A.r b hb).1];omega) (fun i hi hc=>by rw [← h i hi hc,A.cs i hi (.inl hc) b hb (.inl hcb)]) 0
  rwa [ln,ln] at this
/-- what is opened of an honest dealer -/
theorem D1 (s:Sc w n t) (ht:t≤2) {M:List (List Nat)} (hM:qq w.S.P (t+1) (t+1) M) (hs:∀ i,i < t+1→∀ j,j < t+1→(M.getD i []).getD j 0=(M.getD j []).getD i 0) {b:Nat} (hb:b < n) {f:List Nat} (hf:f.length≤t+1) (h:∀ i,i < n→(((i:Nat):Int)+1) ∉ w.ah→bU (P w.S.P (Rw w.S.P M (i+1))) (o w.S.P (b+1))=bU (P w.S.P f) (o w.S.P (i+1))):o w.S.P (f.getD 0 0)=bU (P w.S.P (M.getD 0 [])) (o w.S.P (b+1)):=by
  have hp:=s.sup
  have hlt:=hp.lt
  have h13:=s.n13
  have hw:=fun i (hi:i < n)=>oE hp hM (by omega) (show i+1 < w.S.P by omega)
  have:=zx s (f:=P w.S.P f) (g:=P w.S.P (Rw w.S.P M (b+1))) (by rw [lD];omega) (by rw [lD,(hw b hb).2.2.1];omega) (fun i hi hc=>by
    have e1:=(jd hp (hw i hi).2.2.2.1 (show b+1 < w.S.P by omega) (by rw [(hw i hi).2.2.1];omega)).2.2
    have e2:=(jd hp (hw b hb).2.2.2.1 (show i+1 < w.S.P by omega) (by rw [(hw b hb).2.2.1];omega)).2.2
    rw [← h i hi hc,← e1,← e2,xg hp hM hs (by omega) (by omega) (by omega)]) 0
  rw [ln,ln] at this
  rw [this,(hw b hb).2.2.2.2 0 (by omega),oI (n:=t+1) (by rw [hM.row 0 (by omega)];exact Nat.le_refl _)]
  exact b8 fun k hk=>by rw [hs k hk 0 (by omega)]
end
end Pu

/- Plain laws of refreshing: the sharings of nothing stand. -/
set_option linter.unusedVariables false
namespace Pu
open Gw Gl Sp
theorem JC {t:Nat} {f r:List Nat} (ht:t=1 ∨ t=2) (hf:f.length=t+1) (hr:r.length=t*(t+1) / 2):(mx f r).getD 0 []=f:=by
  rcases ht with rfl | rfl
  · match f,hf with
    | [a,b],_=>match r,hr with
      | [c],_=>unfold mx;rw [GD];rfl
  · match f,hf with
    | [a,b,c],_=>match r,hr with
      | [d,e,g],_=>unfold mx;rw [GE];rfl
theorem yj.congr {n:Nat} {T:List aC} {tp:Nat→List Nat} {ps ps':Nat→Nat} (h:yj n T tp ps) (e:∀ i,i < n→ps i=ps' i):yj n T tp ps' :=
  ⟨h.len,fun i hi=>by rw [h.at_ i hi,e i hi],fun i hi=>by rw [← e i hi];exact h.le i hi⟩
/-- the sum over the dealers that are left -/
theorem JZ {net:ai} {n t m:Nat} [NeZero net.zw.S.P] {res:bi} {out:List Bool} {mi:Int} {x1 x2 x3 x4 x5 x6 x7} (s:Sc net.zw n t) (F:Fm net.zw.S.P n t (2*m) res) (hn:n≤7) (ht:t≤2) (hm3:m≤3) (ho:out.length=n)
    (h:∀ d,d < n→out.getD d false=false→∀ k,k < m→wA net.zw n t (shr res n d (2*k+1)) 0) {k:Nat} (hk:k < m) {l:List (List (List Nat))} (hl:l.length=k):∃ a,gA ⟨net.zw,x1,x2,x3⟩ mi net.zw (res,x4,x5,x6) (out,x7) k l=some (l++[a])∧wA net.zw n t a 0:=by
  have hp:=s.sup
  have hlt:=hp.lt
  have e0:max 1 ((n:Int)+1).toNat - 1=n:=by omega
  obtain ⟨a0,ea,A0⟩:=ET hp s
  unfold gA
  rw [ea,bS,s.N,e0]
  obtain ⟨r,er,hr⟩:=bg (body:=fun k3 (st:(List (List Nat)))=>jy ⟨net.zw,x1,x2,x3⟩ mi net.zw (res,x4,x5,x6) (out,x7) k k3 st) (fun _ a=>wA net.zw n t a 0) (rem:=n) (k:=1) (s:=a0) A0 (fun q a h1 hq A=>by
    obtain ⟨d,rfl⟩:∃ d,q=d+1:=⟨q - 1,by omega⟩
    have hd:d < n:=by omega
    have e1:((d+1:Nat):Int) - 1=((d:Nat):Int):=by omega
    unfold jy
    simp only
    rw [cD (by omega) (by omega),bS,e1,aU false (by omega) (by omega),bS,Int.toNat_natCast]
    cases hb:out.getD d false
    · obtain ⟨z,ez,Z⟩:=wA.add hp (by omega) (by omega) A (h d hd hb k hk)
      rw [nF,cT,zG F (by omega) (by omega) hd (by omega),bS]
      simp only
      rw [ez,bS]
      have z0:(0:Fin net.zw.S.P)+0=0:=by grind
      rw [z0] at Z
      exact ⟨_,rfl,Z⟩
    · rw [nT,cF]
      exact ⟨_,rfl,A⟩)
  rw [er,bS,aI (by simp only [List.length_cons,List.length_nil];omega) (by simp only [List.length_cons,List.length_nil];omega),bS]
  exact ⟨r,rfl,hr⟩
theorem Kh {net:ai} {n t m B:Nat} [NeZero net.zw.S.P] (s:Sc net.zw n t) (ht:t=1 ∨ t=2) (hn:n≤7) (hm:0 < m) (hm3:m≤3) {tp:Nat→List Nat} {ps:Nat→Nat} (hts:yj n net.al tp ps) (h:∀ d,d < n→ps d+m*(t+t*(t+1))≤(tp d).length) (hlt:∀ d,d < n→Lt net.zw.S.P (tp d)) (hv:VB n B net.av) (hB:B≤300) (hr:0≤net.af∧net.af≤700) :
    ∃ all out round views T,dA net ((m:Nat):Int)=some (all,out,round,views,T)∧all.length=m∧out.length=n∧(∀ k,k < m→wA net.zw n t (all.getD k []) 0)∧(∀ d,d < n→Hn net.zw d→out.getD d false=false)∧VB n (B+9*n) views∧yj n T tp (fun i=>ps i+m*(t+t*(t+1)))∧net.af≤round∧round≤net.af+9:=by
  obtain ⟨w,round,v0,T0⟩:=net
  simp only at *
  have hp:=s.sup
  have hlt0:=hp.lt
  have h3:=s.t3
  have ht2:t≤2:=by omega
  have e0:max 1 ((n:Int)+1).toNat=n+1:=by omega
  have e1:max 0 ((m:Nat):Int).toNat=m:=by omega
  have hd0:∀ d,d < n→ps d+m*t≤(tp d).length:=fun d hd=>by
    have:=h d hd
    have:m*t≤m*(t+t*(t+1)):=Nat.mul_le_mul_left m (Nat.le_add_right ..)
    omega
  obtain ⟨T1,eT1,tT1⟩:=E6 (net:=⟨w,round,v0,T0⟩) s.N s.T ht2 hm3 hn hts hd0 (r1:=w) rfl
  obtain ⟨Q,hql⟩:=K2 hp.pos ht hm3 hts h hlt
  obtain ⟨res,v1,T2,eS,tT2,R,hv1,C,_⟩:=GM (net:=⟨w,round,v0,T1⟩) s ht hn Q tT1 hv (by omega) ⟨hr.1,by show round≤800;omega⟩
  simp only at eS R hv1 C
  have F:=Ov.fm R hql
  obtain ⟨all,v2,eC,_,hbl,hsay,hv2,_⟩:=yb (net:=⟨w,round+7,v1,T2⟩) s F hn hm hm3 hv1 (by omega) ⟨by show 0≤round+7;omega,by show round+7≤1000;omega⟩
  simp only at eC hbl hsay
  generalize hcl:EC n m (fun d=>res.be.getD d false) all n=cl at *
  have hmem:∀ c,c ∈ cl ↔ c.1 < n∧c.2.1 < n∧c.2.2 < m∧(all.getD c.1 []).getD (c.2.1*m+c.2.2) 0≠0∧res.be.getD c.2.1 false=false:=fun c=>by rw [← hcl];exact HC hm
  have hlen:cl.length≤200:=by
    rw [← hcl]
    refine Nat.le_trans y5 (Nat.le_trans (Nat.mul_le_mul hn (Nat.mul_le_mul hn hm3)) (by omega))
  have hex:∀ d k b,∃ f:List Nat,d < n→k < 2*m→f.length≤t+1∧∀ i,i < n→Hn w i→bU (P w.S.P (Ba res i d k)) (o w.S.P (b+1))=bU (P w.S.P f) (o w.S.P (i+1)):=fun d k b=>by
    by_cases g:d < n∧k < 2*m
    · obtain ⟨f,_,f2,f3⟩:=C.sp d g.1 k (by rw [hql d g.1];exact g.2) (o w.S.P (b+1))
      exact ⟨f,fun _ _=>⟨f2,f3⟩⟩
    · exact ⟨[],fun h1 h2=>absurd ⟨h1,h2⟩ g⟩
  have hF:=fun d k b=>Classical.choose_spec (hex d k b)
  generalize hF0:(fun d k b=>Classical.choose (hex d k b))=F0 at *
  have hF:∀ d k b,d < n→k < 2*m→(F0 d k b).length≤t+1∧∀ i,i < n→Hn w i→bU (P w.S.P (Ba res i d k)) (o w.S.P (b+1))=bU (P w.S.P (F0 d k b)) (o w.S.P (i+1)):=fun d k b=>by
    rw [← hF0];exact hF d k b
  obtain ⟨out,round3,v3,eJ,j1,j2,j3,j4,j5⟩:=FK (net:=⟨w,round+7+1,v2,T2⟩) (mi:=((m:Nat):Int)) (F0:=F0) s F hn ht2 hm3 hlen (fun c hc=>⟨((hmem c).1 hc).1,((hmem c).1 hc).2.1,((hmem c).1 hc).2.2.1⟩) hv2 (by omega) ⟨by show 0≤round+7+1;omega,by show round+7+1≤1000;omega⟩
    (fun d hd k hk b hb=>⟨(hF d k b hd hk).1,fun i hi hc=>(hF d k b hd hk).2 i hi (.inl hc)⟩)
  simp only at eJ j4 j5
  -- dealers that are left have dealt nothing
  have hz:∀ d,d < n→out.getD d false=false→∀ k,k < m→wA w n t (shr res n d (2*k+1)) 0:=fun d hd ho k hk=>by
    obtain ⟨a,A⟩:=Com.std s C F hql hd (show 2*k < 2*m by omega)
    obtain ⟨b,Bz⟩:=Com.std s C F hql hd (show 2*k+1 < 2*m by omega)
    have hnot:¬ (res.be.getD d false=true ∨ ∃ c ∈ cl,c.2.1=d∧KP w.S.P F0 c):=fun hh=>by
      rw [(j2 d hd).2 hh] at ho;cases ho
    have hb0:b=0:=Kg s A Bz (fun i hi hc=>by
      rw [kz hi,kz hi]
      obtain ⟨u1,u2⟩:=F.ww i hi d hd (2*k+1) (by omega)
      cases hh:hl w.S.P i (Ba res i d (2*k)) (Ba res i d (2*k+1))
      · have hdq:res.be.getD d false=false:=by
          cases hx:res.be.getD d false
          · rfl
          · exact absurd (.inl hx) hnot
        have hdm:d*m+k < n*m:=by
          have:d*m+m≤n*m:=by rw [← Nat.succ_mul];exact Nat.mul_le_mul_right m hd
          omega
        have q1:(d*m+k) / m=d:=by rw [Nat.mul_comm,Nat.mul_add_div hm,Nat.div_eq_of_lt hk,Nat.add_zero]
        have q2:(d*m+k) % m=k:=by rw [Nat.mul_comm,Nat.mul_add_mod,Nat.mod_eq_of_lt hk]
        have hin:(i,d,k) ∈ cl:=(hmem _).2 ⟨hi,hd,hk,by
          show (all.getD i []).getD (d*m+k) 0≠0
          rw [hsay i hi (.inl hc)]
          unfold says Bb
          rw [dt hi,dt hdm,q1,q2,hh]
          decide,hdq⟩
        have hnb:¬ KP w.S.P F0 (i,d,k):=fun hb=>hnot (.inr ⟨_,hin,rfl,hb⟩)
        unfold KP at hnb
        simp only at hnb
        have hnb:=Classical.not_not.1 hnb
        have f1:=hF d (2*k+1) i hd (by omega)
        have f2:=hF d (2*k) i hd (by omega)
        have g1:=AW s Bz hi hc f1.1 (fun j hj hcj=>by rw [kz hj];exact f1.2 j hj (.inl hcj))
        have g2:=AW s A hi hc f2.1 (fun j hj hcj=>by rw [kz hj];exact f2.2 j hj (.inl hcj))
        rw [kz hi] at g1 g2
        rw [← g1,← g2,hnb]
      · exact (Nn hp u2).1 hh)
    rw [hb0] at Bz
    exact Bz
  -- honest dealers are left
  have hhon:∀ d,d < n→Hn w d→out.getD d false=false:=fun d hd hh=>by
    cases hx:out.getD d false
    · rfl
    · exfalso
      rcases (j2 d hd).1 hx with h1 | ⟨c,hc,hcd,hb⟩
      · rw [R.nd d hd hh] at h1;cases h1
      · obtain ⟨c1,c2,c3,_,_⟩:=(hmem c).1 hc
        have hM:=fun k (hk:k < 2*m)=>xq hp.pos ht Q hd (show k < ((HF n t m tp ps).getD d []).length by rw [hql d hd];exact hk)
        have hrow:∀ k,k < 2*m→((Sm (HF n t m tp ps) (rem n tp fun i=>ps i+m*t) t d).getD k []).getD 0 []=Bo (tp d) (ps d) t k:=fun k hk=>by
          have hk':k < ((HF n t m tp ps).getD d []).length:=by rw [hql d hd];exact hk
          have hq:((HF n t m tp ps).getD d []).getD k []=Bo (tp d) (ps d) t k:=by
            unfold HF;rw [dt hd,dt hk]
          rw [Bt hk',JC ht (Q.w d hd k hk').1 (zM (Q.many d hd).2 hk'),hq]
        have hop:∀ k,k < 2*m→o w.S.P ((F0 d k c.1).getD 0 0)=bU (P w.S.P (Bo (tp d) (ps d) t k)) (o w.S.P (c.1+1)):=fun k hk=>by
          have f1:=hF d k c.1 hd hk
          rw [← hrow k hk]
          exact D1 s ht2 (hM k hk).2.1 (hM k hk).2.2 c1 f1.1 (fun i hi hci=>by
            rw [← f1.2 i hi (.inl hci)]
            have:=R.ok d hd hh i hi (.inl hci) k (by rw [hql d hd];exact hk)
            unfold Ba
            rw [this])
        apply hb
        rw [hcd,hop _ (by omega),hop _ (by omega)]
        have d1:2*c.2.2 / 2=c.2.2:=by omega
        have d2:(2*c.2.2+1) / 2=c.2.2:=by omega
        unfold Bo
        rw [if_neg (by omega),if_pos (by omega),d1,d2]
        unfold P
        rw [List.map_cons,List.map_append,uF,bU,List.map_cons,List.map_nil,bU,bU,jK]
        grind
  unfold dA bk
  rw [bS,eF (by omega),cF,s.N,e0,bP (by omega),bS,Nat.add_sub_cancel,eT1,bS]
  simp only
  rw [eS,bS]
  simp only
  rw [eC,bS]
  simp only
  rw [eJ,bS,e1,bP (by omega),bS,Nat.sub_zero]
  obtain ⟨l,el,l1,l2⟩:=bg (body:=fun k2 (st:(List (List (List Nat))))=>gA ⟨w,round,v0,T0⟩ ((m:Nat):Int) w (res,round+7,v1,T2) (out,round3,v3) k2 st) (fun k l=>l.length=k∧∀ i,i < k→wA w n t (l.getD i []) 0) (rem:=m) (k:=0) (s:=[]) ⟨rfl,fun i hi=>by omega⟩ (fun k l _ hk ⟨l1,l2⟩=>by
    obtain ⟨a,ea,A⟩:=JZ (net:=⟨w,round,v0,T0⟩) (x1:=round) (x2:=v0) (x3:=T0) (x4:=round+7) (x5:=v1) (x6:=T2) (x7:=(round3,v3)) (mi:=((m:Nat):Int)) s F hn ht2 hm3 j1 hz (show k < m by omega) l1
    refine ⟨_,ea,by rw [List.length_append,l1];rfl,fun i hi=>?_⟩
    by_cases g:i < k
    · rw [cq (by omega)];exact l2 i g
    · rw [cO (by omega)];exact A)
  rw [Nat.zero_add] at l1 l2
  rw [el,bS]
  refine ⟨l,out,round3,v3,T2,rfl,l1,j1,l2,hhon,⟨j3.1,fun j hj=>?_⟩,tT2.congr fun i hi=>?_,by omega,by omega⟩
  · have:=j3.2 j hj
    omega
  · rw [hql i hi]
    rcases ht with rfl | rfl
    · show ps i+m*1+2*m*1=ps i+m*3;omega
    · show ps i+m*2+2*m*3=ps i+m*8;omega
end Pu

/- Laws of refreshing: sharings of nothing, refreshing again and again. -/
set_option linter.unusedVariables false
namespace Pu
open Gw Gl Sp
theorem sQ {body:Nat→Unit→Option (Out Unit Bool)} {n:Nat} (G:Nat→Prop) (h:∀ k,k < n→body k ()=some (.fin false) ∨ (body k ()=some (.go ())∧G k)):oL body n 0 ()=some (.fin false) ∨ (oL body n 0 ()=some (.go ())∧∀ k,k < n→G k):=by
  obtain ⟨o,e,ho⟩:=eK (body:=body) (fun k _=>∀ j,j < k→G j) (fun b=>b=false) (rem:=n) (k:=0) (s:=()) (fun j hj=>by omega) (fun k s _ hk hI=>by
    rcases h k (by omega) with e | ⟨e,hg⟩
    · exact ⟨_,e,rfl⟩
    · refine ⟨_,e,fun j hj=>?_⟩
      by_cases g:j=k
      · subst g;exact hg
      · exact hI j (by omega))
  cases o with
  | fin b=>exact .inl (by rw [e,show b=false from ho])
  | go u=>exact .inr ⟨e,fun k hk=>ho k (by omega)⟩
theorem OV:mt=some true:=by decide +kernel
theorem BA {p:Nat} {l:List Nat} {most:Nat} (hm:most≤100):∃ b,jO p l ((most:Nat):Int)=some b∧(b=true→Lt p l):=by
  unfold jO
  obtain ⟨r,e,h⟩:=jI (step:=fun (st:Int)=>kj p l ((most:Nat):Int) st) (fun st=>∃ k,k≤most+1∧k≤l.length∧st=((k:Nat):Int)∧∀ j,j < k→l.getD j 0 < p) (fun r=>r=.inl false ∨ (r=.inr ()∧(l.length≤most→Lt p l))) (fun st=>most+1 - st.toNat) (fun st ⟨k,k1,k2,hst,k3⟩=>by
    subst hst
    unfold kj
    by_cases g1:k < l.length
    · by_cases g2:k≤most
      · rw [dT (by omega),cT,dT (by omega),bS,cT,aU 0 (by omega) (by omega),bS,Int.toNat_natCast]
        by_cases g3:l.getD k 0 < p
        · rw [dF (by omega),cF,bh (by omega) (by omega),bS]
          refine ⟨_,rfl,⟨k+1,by omega,by omega,rfl,fun j hj=>?_⟩,by omega⟩
          by_cases g:j=k
          · subst g;exact g3
          · exact k3 j (by omega)
        · rw [dT (by omega),cT]
          exact ⟨_,rfl,.inl rfl⟩
      · rw [dT (by omega),cT,dF (by omega),bS,cF]
        exact ⟨_,rfl,.inr ⟨rfl,fun h=>by omega⟩⟩
    · rw [dF (by omega),cF,bS,cF]
      exact ⟨_,rfl,.inr ⟨rfl,fun _ j hj=>k3 j (by omega)⟩⟩) (s:=((0:Nat):Int)) ⟨0,by omega,by omega,rfl,fun j hj=>by omega⟩ (by omega)
  rw [e,bS]
  rcases h with rfl | ⟨rfl,h⟩
  · rw [Pq];exact ⟨_,rfl,fun h=>by cases h⟩
  · rw [PX];exact ⟨_,rfl,fun hb=>h (by have:=of_decide_eq_true hb;omega)⟩
theorem El {l:List (List Nat)}:∃ b,gL l=some b∧(b=true→∀ i,i < l.length→(l.getD i []).length=l.length):=by
  unfold gL
  rw [Nat.sub_zero]
  rcases sQ (body:=fun k1 (st:Unit)=>jP l k1) (n:=l.length) (fun i=>(l.getD i []).length=l.length) (fun k hk=>by
    unfold jP
    rw [ix [] hk,bS]
    by_cases g:(l.getD k []).length=l.length
    · rw [qF (by omega),cF];exact .inr ⟨rfl,g⟩
    · rw [qT (by omega),cT];exact .inl rfl) with e | ⟨e,h⟩
  · rw [e,bS,oF];exact ⟨_,rfl,fun h=>by cases h⟩
  · rw [e,bS,oG];exact ⟨_,rfl,fun _=>h⟩
theorem DY {s:aM} {t:Nat} (hT:s.T=(t:Int)) (ht:t≤4) {l:List (List Nat)}:∃ b,jo s l=some b∧(b=true→qq s.P (t+1) (t+1) l∧∀ i,i < t+1→∀ j,j < t+1→(l.getD i []).getD j 0=(l.getD j []).getD i 0):=by
  unfold jo
  rw [hT,bh (by omega) (by omega),bS]
  by_cases hl:l.length=t+1
  · rw [eT (by omega),cT]
    unfold mU mT
    obtain ⟨b,eb,hb⟩:=GB (p:=s.P)
    rw [eb,bS]
    cases b
    · rw [nF,cT,bS,cT,bS,cF,bS,cF];exact ⟨_,rfl,fun h=>by cases h⟩
    · rw [nT,cF,dF (by omega),bS,cF,Nat.sub_zero]
      rcases sQ (body:=fun k1 (st:Unit)=>kU s.P l ((6:Nat):Int) k1) (n:=l.length) (fun i=>Lt s.P (l.getD i [])) (fun k hk=>by
        obtain ⟨b,eb,hb⟩:=BA (p:=s.P) (l:=l.getD k []) (most:=6) (by omega)
        unfold kU
        rw [ix [] hk,bS,eb,bS]
        cases b
        · rw [nF,cT];exact .inl rfl
        · rw [nT,cF];exact .inr ⟨rfl,hb rfl⟩) with e | ⟨e,h1⟩
      · rw [e,bS,oF,bS,cF,bS,cF];exact ⟨_,rfl,fun h=>by cases h⟩
      · rw [e,bS,oG,bS,cT]
        obtain ⟨b,eb,h2⟩:=El (l:=l)
        rw [eb,bS,bS]
        cases b
        · rw [cF];exact ⟨_,rfl,fun h=>by cases h⟩
        · rw [cT]
          unfold je
          rw [eb,bS,nT,cF,Nat.sub_zero]
          have h2:=h2 rfl
          rcases sQ (body:=fun k1 (st:Unit)=>gR l k1) (n:=l.length) (fun i=>∀ j,j < i→(l.getD i []).getD j 0=(l.getD j []).getD i 0) (fun k hk=>by
            unfold gR
            rw [bP (by omega),bS,Nat.sub_zero]
            rcases sQ (body:=fun k2 (st:Unit)=>gS l k k2) (n:=k) (fun j=>(l.getD k []).getD j 0=(l.getD j []).getD k 0) (fun j hj=>by
              unfold gS
              rw [ix [] hk,bS,ix 0 (by rw [h2 k hk];omega),bS,ix [] (by omega),bS,ix 0 (by rw [h2 j (by omega)];omega),bS]
              by_cases g:(l.getD k []).getD j 0=(l.getD j []).getD k 0
              · rw [qF (by omega),cF];exact .inr ⟨rfl,g⟩
              · rw [qT (by omega),cT];exact .inl rfl) with e | ⟨e,h⟩
            · rw [e,bS,oF];exact .inl rfl
            · rw [e,bS,oG];exact .inr ⟨rfl,h⟩) with e | ⟨e,h3⟩
          · rw [e,bS,oF,bS];exact ⟨_,rfl,fun h=>by cases h⟩
          · rw [e,bS,oG,bS]
            refine ⟨_,rfl,fun _=>⟨⟨hl,fun i hi=>by rw [h2 i (by omega),hl],fun i hi j hj=>h1 i (by omega) j (by rw [h2 i (by omega),hl];exact hj)⟩,fun i hi j hj=>?_⟩⟩
            rcases Nat.lt_trichotomy i j with g | g | g
            · exact (h3 j (by omega) i g).symm
            · rw [g]
            · exact h3 i (by omega) j g
  · rw [eF (by omega),cF];exact ⟨_,rfl,fun h=>by cases h⟩
theorem DK {w:ae} {m:Int} {most:Nat} (h4:most≤4) (hK:∀ x ∈ w.aa,x.K < 18446744073709551616):∃ b,kw w m ((most:Nat):Int)=some b∧(b=true→∃ n t k,Va w n t∧dm w=some true∧n≤7∧(t=1 ∨ t=2)∧m=((k:Nat):Int)∧k≤most∧∀ i,i < n→k*(t+t*(t+1))≤(w.aA.getD i []).length):=by
  unfold kw
  obtain ⟨b,eb,hb⟩:=HI (w:=w) (lies:=((10:Nat):Int)) (words:=((100:Nat):Int)) hK (by omega) (by omega)
  rw [eb,bS]
  cases b
  · rw [nF,cT,bS,cT];exact ⟨_,rfl,fun h=>by cases h⟩
  · obtain ⟨n,t,v,hv⟩:=hb rfl
    have h13:=v.n13
    have t1:=v.t1
    have t3:=v.t3
    rw [nT,cF]
    by_cases g1:m < 0
    · rw [dT g1,cT,bS,cT];exact ⟨_,rfl,fun h=>by cases h⟩
    · rw [dF g1,cF]
      by_cases g2:m > ((most:Nat):Int)
      · rw [dT g2,cT,bS,cT];exact ⟨_,rfl,fun h=>by cases h⟩
      · rw [dF g2,cF,v.N,bS]
        by_cases g3:n≤7
        · obtain ⟨k,rfl⟩:=Int.eq_ofNat_of_zero_le (show 0≤m by omega)
          have ht:t=1 ∨ t=2:=by omega
          have hk:k≤most:=by omega
          have etl:iS w.S ((k:Nat):Int)=some ((k*(t+t*(t+1)):Nat):Int):=by
            unfold iS mV
            rw [v.T]
            have hk4:k≤4:=by omega
            rcases ht with rfl | rfl
            · rw [bh (by omega) (by omega),bS,eM (by omega) (by omega),bS]
              show (some (1:Int) >>= _) >>= _=_
              rw [bS,bS,eM (by omega) (by omega),bS,bh (by omega) (by omega),bS,eM (by omega) (by omega),bS]
              congr 1
            · rw [bh (by omega) (by omega),bS,eM (by omega) (by omega),bS]
              show (some (3:Int) >>= _) >>= _=_
              rw [bS,bS,eM (by omega) (by omega),bS,bh (by omega) (by omega),bS,eM (by omega) (by omega),bS]
              congr 1
          rw [dF (by omega),cF,v.tl,Nat.sub_zero]
          rcases sQ (body:=fun k1 (st:Unit)=>kT w ((k:Nat):Int) k1) (n:=n) (fun i=>k*(t+t*(t+1))≤(w.aA.getD i []).length) (fun i hi=>by
            unfold kT
            rw [ix [] (by rw [v.tl];exact hi),bS,etl,bS]
            by_cases g:k*(t+t*(t+1))≤(w.aA.getD i []).length
            · rw [dF (by omega),cF];exact .inr ⟨rfl,g⟩
            · rw [dT (by omega),cT];exact .inl rfl) with e | ⟨e,h⟩
          · rw [e,bS,oF];exact ⟨_,rfl,fun h=>by cases h⟩
          · rw [e,bS,oG];exact ⟨_,rfl,fun _=>⟨n,t,k,v,hv,g3,ht,rfl,hk,h⟩⟩
        · rw [dT (by omega),cT];exact ⟨_,rfl,fun h=>by cases h⟩
theorem NT {w:ae} {n t:Nat} (v:Va w n t):yj n (w.aA.map fun l=>(⟨l,0⟩:aC)) (fun i=>w.aA.getD i []) (fun _=>0):=⟨by simp [v.tl],fun i hi=>by
  have:i < w.aA.length:=by rw [v.tl];exact hi
  simp [List.getD_eq_getElem?_getD,this],fun i hi=>⟨Nat.zero_le _,v.ts i hi⟩⟩
theorem Pt {n:Nat}:VB n 0 (List.replicate n []):=⟨by simp,fun j hj=>by simp [List.getD_eq_getElem?_getD,hj]⟩
/-- the sharings of nothing, none too -/
theorem Ha {net:ai} {n t m B:Nat} [NeZero net.zw.S.P] (s:Sc net.zw n t) (ht:t=1 ∨ t=2) (hn:n≤7) (hm3:m≤3) {tp:Nat→List Nat} {ps:Nat→Nat} (hts:yj n net.al tp ps) (h:∀ d,d < n→ps d+m*(t+t*(t+1))≤(tp d).length) (hlt:∀ d,d < n→Lt net.zw.S.P (tp d)) (hv:VB n B net.av) (hB:B≤300) (hr:0≤net.af∧net.af≤700) :
    ∃ all out round views T,dA net ((m:Nat):Int)=some (all,out,round,views,T)∧all.length=m∧out.length=n∧(∀ k,k < m→wA net.zw n t (all.getD k []) 0)∧(∀ d,d < n→Hn net.zw d→out.getD d false=false)∧VB n (B+9*n) views∧yj n T tp (fun i=>ps i+m*(t+t*(t+1)))∧net.af≤round∧round≤net.af+9:=by
  by_cases hm:0 < m
  · exact Kh s ht hn hm hm3 hts h hlt hv hB hr
  · have:m=0:=by omega
    subst this
    unfold dA bk
    rw [bS,eT (a:=((0:Nat):Int)) (b:=0) rfl,cT,s.N,cc (by omega) (by omega) (by omega) (by omega),bS]
    refine ⟨_,_,_,_,_,rfl,rfl,by simp,fun k hk=>by omega,fun d hd _=>by simp [List.getD_eq_getElem?_getD,hd],⟨hv.1,fun j hj=>Nat.le_trans (hv.2 j hj) (by omega)⟩,hts.congr fun i hi=>by rw [Nat.zero_mul,Nat.add_zero],by omega,by omega⟩
/-- refreshing keeps what is shared -/
theorem B7 {net:ai} {n t m B:Nat} [NeZero net.zw.S.P] (s:Sc net.zw n t) (ht:t=1 ∨ t=2) (hn:n≤7) (hm3:m≤3) {tp:Nat→List Nat} {ps:Nat→Nat} (hts:yj n net.al tp ps) (h:∀ d,d < n→ps d+m*(t+t*(t+1))≤(tp d).length) (hlt:∀ d,d < n→Lt net.zw.S.P (tp d)) (hv:VB n B net.av) (hB:B≤300) (hr:0≤net.af∧net.af≤700)
    {l:List (List (List Nat))} (hl:l.length=m) {c:Nat→Fin net.zw.S.P} (hc:∀ k,k < m→wA net.zw n t (l.getD k []) (c k)) :
    ∃ l' round views T,mj net l=some (l',round,views,T)∧l'.length=m∧(∀ k,k < m→wA net.zw n t (l'.getD k []) (c k))∧VB n (B+9*n) views∧yj n T tp (fun i=>ps i+m*(t+t*(t+1)))∧net.af≤round∧round≤net.af+9:=by
  obtain ⟨all,out,round,views,T,ez,z1,z2,z3,z4,z5,z6,z7,z8⟩:=Ha s ht hn hm3 hts h hlt hv hB hr
  unfold mj
  rw [hl,ez,bS,Nat.sub_zero]
  obtain ⟨r,er,r1,r2⟩:=bg (body:=fun k1 (st:(List (List (List Nat))))=>mw net l (all,out,round,views,T) k1 st) (fun k r=>r.length=k∧∀ i,i < k→wA net.zw n t (r.getD i []) (c i)) (rem:=m) (k:=0) (s:=[]) ⟨rfl,fun i hi=>by omega⟩ (fun k r _ hk ⟨r1,r2⟩=>by
    have hkm:k < m:=by omega
    obtain ⟨z,ez,Z⟩:=wA.add s.sup (by omega) (by omega) (hc k hkm) (z3 k hkm)
    have z0:c k+0=c k:=by grind
    rw [z0] at Z
    unfold mw bk
    simp only
    rw [ix [] (by omega),bS,bS,ix [] (by omega),bS,ez,bS,aI (by simp only [List.length_cons,List.length_nil];omega) (by simp only [List.length_cons,List.length_nil];omega),bS]
    refine ⟨_,rfl,by rw [List.length_append,r1];rfl,fun i hi=>?_⟩
    by_cases g:i < k
    · rw [cq (by omega)];exact r2 i g
    · have:i=k:=by omega
      subst this
      rw [cO (by omega)];exact Z)
  rw [Nat.zero_add] at r1 r2
  rw [er,bS]
  exact ⟨r,round,views,T,rfl,r1,r2,z5,z6,z7,z8⟩
theorem Ek {w:ae} [NeZero w.S.P] {n t:Nat} (s:Sc w n t) (ht:t≤2) {M:List (List Nat)} (hM:qq w.S.P (t+1) (t+1) M):ky w.S M=some ((List.range n).map fun i=>Rw w.S.P M (i+1)):=by
  have h13:=s.n13
  have hlt:=s.sup.lt
  have e0:max 1 ((n:Int)+1).toNat=n+1:=by omega
  unfold ky
  rw [s.N,e0,bP (by omega),bS,Nat.add_sub_cancel,A6 (fun i=>Rw w.S.P M (i+1)) (fun i l hi hl=>by
    have hu:q9 ((i+1:Nat):Int)=i+1:=by unfold q9;omega
    unfold oc
    rw [bS,hu,(oE s.sup hM (by omega) (show i+1 < w.S.P by omega)).2.1,bS,aI (by simp only [List.length_cons,List.length_nil];omega) (by simp only [List.length_cons,List.length_nil];omega),bS]),bS]
theorem zA (w:ae) (M:List (List Nat)) (times:Nat) (hK:∀ y ∈ w.aa,y.K < 18446744073709551616) (h8:times < 256):gE w M times=some true:=by
  unfold gE
  rw [OV,bS,nT,cF]
  unfold uh
  rw [if_neg (by omega),bS]
  have hti:NS ((times % 4:Nat):Int)=((times % 4:Nat):Int):=by unfold NS;omega
  rw [bS,hti]
  have hq:times % 4 < 4:=Nat.mod_lt _ (by omega)
  generalize times % 4=q at *
  obtain ⟨b,eb,hb⟩:=DK (m:=((q:Nat):Int)) (most:=3) (by omega) hK
  rw [eb,bS]
  cases b
  · rw [nF,cT,bS,cT]
  · obtain ⟨n,t,k,v,hv,hn,ht,hkq,hk,htl⟩:=hb rfl
    have hkq:q=k:=by omega
    subst hkq
    obtain ⟨b2,eb2,hb2⟩:=DY (s:=w.S) v.T (by omega) (l:=M)
    rw [nT,cF,eb2,bS,bS]
    cases b2
    · rw [nF,cT]
    · obtain ⟨hM,hs⟩:=hb2 rfl
      have e0:max 0 ((q:Nat):Int).toNat=q:=by omega
      have hp:=v.sup
      have:NeZero w.S.P:=hp.ne
      have A:=wA.rows v.toSc (by omega) hM hs (a:=(List.range n).map fun i=>Rw w.S.P M (i+1)) dJ (fun i hi=>dt hi)
      rw [nT,cF,L1 v,bS,sR,Ek v.toSc (by omega) hM,bS,e0,bP (by omega),bS,Nat.sub_zero]
      obtain ⟨r,er,r1,r2,_⟩:=bg (body:=fun k1 (st:Int × (List (List ao)) × (List aC) × (List (List (List Nat))))=>da ⟨w,0,List.replicate n [],w.aA.map fun l=>⟨l,0⟩⟩ k1 st.1 st.2.1 st.2.2.1 st.2.2.2)
        (fun k st=>st.2.2.2.length=1∧wA w n t (st.2.2.2.getD 0 []) (o w.S.P ((M.getD 0 []).getD 0 0))∧VB n (9*n*k) st.2.1∧yj n st.2.2.1 (fun i=>w.aA.getD i []) (fun _=>k*(t+t*(t+1)))∧0≤st.1∧st.1≤((9*k:Nat):Int)) (rem:=q) (k:=0) (s:=(0,List.replicate n [],w.aA.map fun l=>⟨l,0⟩,[(List.range n).map fun i=>Rw w.S.P M (i+1)]))
        ⟨rfl,A,Pt,(NT v).congr fun i hi=>by rw [Nat.zero_mul],Int.le_refl 0,Int.le_refl 0⟩ (fun k st _ hkq ⟨a1,a2,a3,a4,a5,a6⟩=>by
          obtain ⟨round,views,T,l⟩:=st
          simp only at a1 a2 a3 a4 a5 a6
          have hkq:k < q:=by omega
          have hB:9*n*k≤9*7*3:=Nat.mul_le_mul (Nat.mul_le_mul_left 9 hn) (by omega)
          obtain ⟨l',round',views',T',e,b1,b2,b3,b4,b5,b6⟩:=B7 (net:=⟨w,round,views,T⟩) (m:=1) (c:=fun _=>o w.S.P ((M.getD 0 []).getD 0 0)) v.toSc ht hn (by omega) a4 (fun d hd=>by
            have h1:=htl d hd
            have h2:k*(t+t*(t+1))+(t+t*(t+1))≤q*(t+t*(t+1)):=by rw [← Nat.succ_mul];exact Nat.mul_le_mul_right _ hkq
            rw [Nat.one_mul];omega) (fun d hd=>v.tb d hd) a3 (by omega) ⟨a5,by show round≤700;omega⟩ a1 (fun i hi=>by
            have:i=0:=by omega
            subst this;exact a2)
          simp only at b2 b5 b6
          unfold da
          simp only
          rw [e,bS]
          refine ⟨_,rfl,b1,b2 0 (by omega),⟨b3.1,fun j hj=>?_⟩,b4.congr fun i hi=>by rw [Nat.one_mul,Nat.succ_mul],by simp only;omega,by simp only;omega⟩
          have:=b3.2 j hj
          rw [Nat.mul_succ];exact this)
      obtain ⟨round,views,T,l⟩:=r
      simp only at r1 r2
      rw [er,bS]
      simp only
      obtain ⟨S,eS,s1,s2,s3,s4⟩:=BV v.toSc hn (by omega) r2
      have h0:(S.getD 0 []).getD 0 0=(M.getD 0 []).getD 0 0:=oJ s3 (hM.lt 0 (by omega) 0 (by omega)) s4
      rw [qF (by omega),cF,ix [] (by omega),bS,eS,bS]
      simp only
      rw [cT,ix [] (by omega),bS,ix 0 (by omega),bS,ix [] (by rw [hM.len];omega),bS,ix 0 (by rw [hM.row 0 (by omega)];omega),bS,h0,eT rfl]
end Pu
