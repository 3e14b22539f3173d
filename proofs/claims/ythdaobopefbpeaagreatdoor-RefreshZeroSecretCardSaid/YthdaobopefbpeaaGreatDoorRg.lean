/- Plain laws of refreshing: the judgement of the complaints. -/
import Derived.Test.YthdaobopefbpeaaGreatDoorRf
set_option linter.unusedVariables false
namespace Pu
open Gw Gl Sp
/-- opened rows are the honest parties' -/
theorem FK {net:aj} {n t m B:Nat} [NeZero net.zw.S.P] (s:Sc net.zw n t) {w:List (List (List Nat))} {ats:List Int} (hm:m≤400) (h1:w.length=m) (hm0:0 < m) (h2:∀ k,k < m→(w.getD k []).length=n∧∀ i,i < n→((w.getD k []).getD i []).length≤100∧Lt net.zw.S.P ((w.getD k []).getD i []))
    (h3:ats.length=m) {a:Nat→Nat} (h4:∀ k,k < m→ats.getD k 0=((a k+1:Nat):Int)∧a k < n) (hv:VB n B net.au) (hB:B≤500) (hr:0≤net.af∧net.af≤1000) {f0:Nat→List Nat}
    (hf:∀ k,k < m→(f0 k).length≤t+1∧∀ i,i < n→(((i:Nat):Int)+1) ∉ net.zw.ah→bT (P net.zw.S.P ((w.getD k []).getD i [])) (o net.zw.S.P (a k+1))=bT (P net.zw.S.P (f0 k)) (o net.zw.S.P (i+1))) :
    ∃ rows views,ia net w ats=some (rows,net.af+1,views)∧rows.length=n∧(∀ j,j < n→(rows.getD j []).length=m∧∀ k,k < m→((rows.getD j []).getD k []).length=t+1∧Lt net.zw.S.P ((rows.getD j []).getD k [])∧∀ i,o net.zw.S.P (((rows.getD j []).getD k []).getD i 0)=o net.zw.S.P ((f0 k).getD i 0))∧VB n (B+n) views:=by
  have hp:=s.sup
  obtain ⟨lists,all,rows,views,e,l1,sq,hall,rl,vl,hrow,hvw⟩:=rows_ok s hm h1 hm0 h2 h3 h4 hv.1 (fun j hj=>Nat.le_trans (hv.2 j hj) hB) hr
  refine ⟨rows,views,e,rl,fun j hj=>⟨(hrow j hj).1,fun k hk=>?_⟩,vl,fun j hj=>?_⟩
  · obtain ⟨pts,f,at_,e0,ep,ed,f1,f2,f3⟩:=(hrow j hj).2 k hk
    obtain ⟨pts',f',at',ep',ed',g1,g2,g3⟩:=EL s sq (k:=k) hj (hf k hk).1 (fun i hi hc=>by
      rw [hall i hi hc j hj,((l1 i hi).2 k hk).2,(hf k hk).2 i hi hc])
    have h5:=Option.some.inj (ep.symm.trans ep')
    subst h5
    have h6:=Option.some.inj (ed.symm.trans ed')
    have h7:f=f':=congrArg Prod.fst h6
    subst h7
    have hg:∀ i,(f++List.replicate (t+1 - f.length) 0).getD i 0=f.getD i 0:=fun i=>by
      rw [List.getD_eq_getElem?_getD,List.getD_eq_getElem?_getD]
      by_cases g:i < f.length
      · rw [List.getElem?_append_left g]
      · rw [List.getElem?_append_right (by omega),List.getElem?_eq_none (show f.length≤i by omega),List.getElem?_replicate]
        split <;> rfl
    rw [f3]
    refine ⟨by rw [List.length_append,List.length_replicate];omega,fun i hi=>?_,fun i=>?_⟩
    · rw [hg];exact f1.get hp.pos i
    · rw [hg];exact g3.1 i
  · rw [hvw j hj,List.length_append]
    have:=hv.2 j hj
    have:(zR net.af all j n).length≤n:=yH
    omega
theorem FB {k:Nat}:List.range (2*(k+1))=List.range (2*k)++[2*k,2*k+1]:=by
  show List.range (2*k+1+1)=_
  rw [List.range_succ,List.range_succ,List.append_assoc];rfl
/-- the opened pair does not fit -/
def J0 (p:Nat) [NeZero p] (F0:Nat→Nat→Nat→List Nat) (c:Nat × Nat × Nat):Prop:=o p ((F0 c.2.1 (2*c.2.2+1) c.1).getD 0 0)≠o p (c.1+1)*o p ((F0 c.2.1 (2*c.2.2) c.1).getD 0 0)
theorem Mu {p:Nat} [NeZero p] {i:Nat} {u q:List Nat} (hp:fC p) (hq:Lt p q):hl p i u q=true ↔ o p (q.getD 0 0)=o p (i+1)*o p (u.getD 0 0):=by
  unfold hl
  rw [decide_eq_true_iff,← oj]
  constructor
  · intro h;rw [h,kJ]
  · intro h
    refine oi (hq.get hp.pos 0) (Nat.mod_lt _ hp.pos) ?_
    rw [h,kJ]
/-- what is opened: sharing q of the list -/
def IJ (res:bi) (n:Nat) (cl:List (Nat × Nat × Nat)) (q:Nat):List (List Nat):=shr res n (cl.getD (q / 2) (0,0,0)).2.1 (2*(cl.getD (q / 2) (0,0,0)).2.2+q % 2)
def Gu (cl:List (Nat × Nat × Nat)) (q:Nat):Nat:=(cl.getD (q / 2) (0,0,0)).1
theorem C1 {net:aj} {S:aS} {p n t m:Nat} {mi:Int} {res:bi} (F:Fm p n t (2*m) res) (hn:n≤7) (hm3:m≤3) {cl:List (Nat × Nat × Nat)} (hl:cl.length≤200) (hc:∀ c ∈ cl,c.1 < n∧c.2.1 < n∧c.2.2 < m) :
    dw (fun k1 (st:(List (List (List Nat))) × (List Int))=>eh ⟨net,S,mi,res⟩ (cl.map toC) k1 st.1 st.2) cl.length 0 ([],[])=some ((List.range (2*cl.length)).map (IJ res n cl),(List.range (2*cl.length)).map fun q=>((Gu cl q+1:Nat):Int)):=by
  obtain ⟨r,e,h⟩:=bf (body:=fun k1 (st:(List (List (List Nat))) × (List Int))=>eh ⟨net,S,mi,res⟩ (cl.map toC) k1 st.1 st.2) (fun k st=>st=((List.range (2*k)).map (IJ res n cl),(List.range (2*k)).map fun q=>((Gu cl q+1:Nat):Int))) (rem:=cl.length) (k:=0) (s:=([],[])) rfl (fun k st _ hk hst=>by
    have hkl:k < cl.length:=by omega
    obtain ⟨c1,c2,c3⟩:=hc _ (getD_in (d:=(0,0,0)) hkl)
    have hg:(cl.map toC)[k]?=some (toC (cl.getD k (0,0,0))):=by rw [List.getElem?_map,ix (0,0,0) hkl];rfl
    have d1:2*k / 2=k:=by omega
    have d2:(2*k+1) / 2=k:=by omega
    have d3:2*k % 2=0:=by omega
    have d4:(2*k+1) % 2=1:=by omega
    have o1:IJ res n cl (2*k)=shr res n (cl.getD k (0,0,0)).2.1 (2*(cl.getD k (0,0,0)).2.2):=by unfold IJ;rw [d1,d3];rfl
    have o2:IJ res n cl (2*k+1)=shr res n (cl.getD k (0,0,0)).2.1 (2*(cl.getD k (0,0,0)).2.2+1):=by unfold IJ;rw [d2,d4]
    have o3:Gu cl (2*k)=(cl.getD k (0,0,0)).1:=by unfold Gu;rw [d1]
    have o4:Gu cl (2*k+1)=(cl.getD k (0,0,0)).1:=by unfold Gu;rw [d2]
    subst hst
    unfold eh
    simp only
    rw [hg,bS]
    unfold toC
    simp only
    rw [yY F (by omega) (by omega) c2 (by omega),bS,aL (by simp only [List.length_cons,List.length_nil,dL];omega) (by simp only [List.length_cons,List.length_nil,dL];omega),bS,aL (by simp only [List.length_cons,List.length_nil,dL];omega) (by simp only [List.length_cons,List.length_nil,dL];omega),bS]
    refine ⟨_,rfl,?_⟩
    rw [FB,List.map_append,List.map_append]
    simp only [List.map_cons,List.map_nil,o1,o2,o3,o4])
  rw [e,h,Nat.zero_add]
theorem ER {net:aj} {n t m B:Nat} [NeZero net.zw.S.P] {mi:Int} {res:bi} (s:Sc net.zw n t) (F:Fm net.zw.S.P n t (2*m) res) (hn:n≤7) (ht:t≤2) (hm3:m≤3) {cl:List (Nat × Nat × Nat)} (hcl:cl.length≤200) (hc:∀ c ∈ cl,c.1 < n∧c.2.1 < n∧c.2.2 < m)
    (hv:VB n B net.au) (hB:B≤500) (hr:0≤net.af∧net.af≤1000) {F0:Nat→Nat→Nat→List Nat}
    (hf:∀ d,d < n→∀ k,k < 2*m→∀ b,b < n→(F0 d k b).length≤t+1∧∀ i,i < n→(((i:Nat):Int)+1) ∉ net.zw.ah→bT (P net.zw.S.P (Az res i d k)) (o net.zw.S.P (b+1))=bT (P net.zw.S.P (F0 d k b)) (o net.zw.S.P (i+1))) :
    ∃ out round views,ji ⟨net,net.zw.S,mi,res⟩ (cl.map toC)=some (out,round,views)∧out.length=n∧(∀ d,d < n→(out.getD d false=true ↔ res.bd.getD d false=true ∨ ∃ c ∈ cl,c.2.1=d∧J0 net.zw.S.P F0 c))∧VB n (B+n) views∧net.af≤round∧round≤net.af+1:=by
  have hp:=s.sup
  have hlt:=hp.lt
  have h4:=s.n4
  unfold ji
  simp only
  rw [aL (by rw [F.dl];simp only [List.length_nil];omega) (by rw [F.dl];simp only [List.length_nil];omega),bS,List.nil_append,List.length_map,Nat.sub_zero,C1 F hn hm3 hcl hc,bS]
  simp only
  by_cases h0:cl.length=0
  · have:cl=[]:=List.length_eq_zero_iff.1 h0
    subst this
    unfold ia bv
    rw [bS,s.N,ca (by omega) (by omega) (by omega) (by omega),bS,eT (by rfl),cT,bS]
    show ∃ out round views,(some res.bd >>= fun l9=>some (l9,net.af,net.au))=_∧_
    rw [bS]
    refine ⟨_,_,_,rfl,F.dl,fun d hd=>⟨fun h=>.inl h,fun h=>?_⟩,⟨hv.1,fun j hj=>by have:=hv.2 j hj;omega⟩,by omega,by omega⟩
    rcases h with h | ⟨c,hc,_⟩
    · exact h
    · cases hc
  have hC:∀ q,q < 2*cl.length→(cl.getD (q / 2) (0,0,0)).1 < n∧(cl.getD (q / 2) (0,0,0)).2.1 < n∧(cl.getD (q / 2) (0,0,0)).2.2 < m:=fun q hq=>hc _ (getD_in (by omega))
  obtain ⟨rows,views,er,r1,r2,r3⟩:=FK (m:=2*cl.length) (a:=Gu cl) (B:=B) (w:=(List.range (2*cl.length)).map (IJ res n cl)) (ats:=(List.range (2*cl.length)).map fun q=>((Gu cl q+1:Nat):Int)) s (by omega) dL (by omega) (fun q hq=>by
      obtain ⟨c1,c2,c3⟩:=hC q hq
      rw [dA hq]
      unfold IJ
      refine ⟨wz,fun i hi=>?_⟩
      rw [km hi]
      obtain ⟨w1,w2⟩:=F.ww i hi _ c2 (2*(cl.getD (q / 2) (0,0,0)).2.2+q % 2) (by omega)
      exact ⟨by omega,w2⟩) dL (fun q hq=>⟨dA hq,(hC q hq).1⟩) hv hB hr (f0:=fun q=>F0 (cl.getD (q / 2) (0,0,0)).2.1 (2*(cl.getD (q / 2) (0,0,0)).2.2+q % 2) (Gu cl q)) (fun q hq=>by
      obtain ⟨c1,c2,c3⟩:=hC q hq
      obtain ⟨g1,g2⟩:=hf _ c2 (2*(cl.getD (q / 2) (0,0,0)).2.2+q % 2) (by omega) _ c1
      refine ⟨g1,fun i hi hci=>?_⟩
      rw [dA hq]
      unfold IJ
      rw [km hi]
      exact g2 i hi hci)
  rw [er,bS]
  simp only
  obtain ⟨q1,q2⟩:=r2 0 (by omega)
  have hgr:rows[0]?=some (rows.getD 0 []):=ix [] (by omega)
  generalize rows.getD 0 []=R0 at *
  have hfit:∀ k,k < cl.length→(hl net.zw.S.P (cl.getD k (0,0,0)).1 (R0.getD (2*k) []) (R0.getD (2*k+1) [])=false ↔ J0 net.zw.S.P F0 (cl.getD k (0,0,0))):=fun k hk=>by
    have d1:2*k / 2=k:=by omega
    have d2:(2*k+1) / 2=k:=by omega
    have d3:2*k % 2=0:=by omega
    have d4:(2*k+1) % 2=1:=by omega
    obtain ⟨a1,a2,a3⟩:=q2 (2*k) (by omega)
    obtain ⟨b1,b2,b3⟩:=q2 (2*k+1) (by omega)
    have a3:=a3 0
    have b3:=b3 0
    unfold Gu at a3 b3
    rw [d1,d3,Nat.add_zero] at a3
    rw [d2,d4] at b3
    have:=Mu (i:=(cl.getD k (0,0,0)).1) (u:=R0.getD (2*k) []) hp b2
    unfold J0
    rw [← Bool.not_eq_true,this,a3,b3]
  obtain ⟨out,eo,o1,o2⟩:=bf (body:=fun k2 (st:(List Bool))=>jL ⟨net,net.zw.S,mi,res⟩ (cl.map toC) (rows,net.af+1,views) k2 st)
    (fun k l=>l.length=n∧∀ d,d < n→(l.getD d false=true ↔ res.bd.getD d false=true ∨ ∃ i,i < k∧(cl.getD i (0,0,0)).2.1=d∧J0 net.zw.S.P F0 (cl.getD i (0,0,0)))) (rem:=cl.length) (k:=0) (s:=res.bd)
    ⟨F.dl,fun d hd=>⟨fun h=>.inl h,fun h=>by
      rcases h with h | ⟨i,hi,_⟩
      · exact h
      · omega⟩⟩ (fun k l _ hk ⟨o1,o2⟩=>by
      have hkl:k < cl.length:=by omega
      obtain ⟨c1,c2,c3⟩:=hc _ (getD_in (d:=(0,0,0)) hkl)
      have hg:(cl.map toC)[k]?=some (toC (cl.getD k (0,0,0))):=by rw [List.getElem?_map,ix (0,0,0) hkl];rfl
      have e1:(2:Int)*((k:Nat):Int)=((2*k:Nat):Int):=by omega
      have e2:((2*k:Nat):Int)+1=((2*k+1:Nat):Int):=by omega
      obtain ⟨a1,a2,a3⟩:=q2 (2*k) (by omega)
      obtain ⟨b1,b2,b3⟩:=q2 (2*k+1) (by omega)
      have hfk:=hfit k hkl
      generalize hck:cl.getD k (0,0,0)=c at *
      unfold jL
      simp only
      rw [hg,bS,hgr,bS,eM (by omega) (by omega),bS,e1,aT [] (by omega) (by omega),bS,Int.toNat_natCast,be (by omega) (by omega),bS,e2,aT [] (by omega) (by omega),bS,Int.toNat_natCast]
      unfold toC
      simp only
      rw [z7 (p:=net.zw.S.P) hp rfl (by omega) a2 (by omega) (by omega),bS]
      cases hh:hl net.zw.S.P c.1 (R0.getD (2*k) []) (R0.getD (2*k+1) [])
      · have e3:((c.2.1+1:Nat):Int) - 1=((c.2.1:Nat):Int):=by omega
        rw [nF,cT,cC (by omega) (by omega),bS,e3,aT false (by omega) (by omega),bS,Int.toNat_natCast,bS]
        refine ⟨_,rfl,by rw [List.length_set];exact o1,fun d hd=>?_⟩
        rw [aJ (by omega)]
        by_cases g:c.2.1=d
        · rw [if_pos g]
          exact ⟨fun _=>.inr ⟨k,by omega,by rw [hck];exact ⟨g,hfk.1 hh⟩⟩,fun _=>rfl⟩
        · rw [if_neg g,o2 d hd]
          refine or_congr_right ⟨fun ⟨i,hi,h⟩=>⟨i,by omega,h⟩,fun ⟨i,hi,h⟩=>?_⟩
          by_cases gi:i=k
          · subst gi;rw [hck] at h;exact absurd h.1 g
          · exact ⟨i,by omega,h⟩
      · rw [nT,cF]
        refine ⟨_,rfl,o1,fun d hd=>?_⟩
        rw [o2 d hd]
        refine or_congr_right ⟨fun ⟨i,hi,h⟩=>⟨i,by omega,h⟩,fun ⟨i,hi,h⟩=>?_⟩
        by_cases gi:i=k
        · subst gi;rw [hck] at h
          rw [hfk.2 h.2] at hh;cases hh
        · exact ⟨i,by omega,h⟩)
  rw [Nat.zero_add] at o2
  rw [eo,bS]
  refine ⟨out,_,views,rfl,o1,fun d hd=>?_,r3,by omega,by omega⟩
  rw [o2 d hd]
  refine or_congr_right ⟨fun ⟨i,hi,h⟩=>⟨_,getD_in hi,h⟩,fun ⟨c,hcm,h⟩=>?_⟩
  obtain ⟨i,hi,rfl⟩:=List.getElem_of_mem hcm
  refine ⟨i,hi,?_⟩
  have:cl.getD i (0,0,0)=cl[i]:=by rw [List.getD_eq_getElem?_getD,List.getElem?_eq_getElem hi];rfl
  rw [this];exact h
end Pu

/- Plain laws of refreshing: drawing, and the sharings of nothing. -/
set_option linter.unusedVariables false
namespace Pu
open Gw Gl Sp
/-- the words of the k-th pair -/
def Gt (l:List Nat) (a t k:Nat):List Nat:=(l.drop (a+k*t)).take t
/-- the first rows that a dealer draws -/
def AJ (l:List Nat) (a t q:Nat):List Nat:=if q % 2=0 then Gt l a t (q / 2)++[0] else 0 :: Gt l a t (q / 2)
theorem BO {l:List Nat} {a t k m:Nat} (h:a+m*t≤l.length) (hk:k < m):(Gt l a t k).length=t:=by
  unfold Gt
  have:k*t+t≤m*t:=by rw [← Nat.succ_mul];exact Nat.mul_le_mul_right t hk
  rw [List.length_take,List.length_drop];omega
theorem Ke {p:Nat} (hp:0 < p) {l:List Nat} (hl:Lt p l) {a t q m:Nat} (h:a+m*t≤l.length) (hq:q < 2*m):(AJ l a t q).length=t+1∧Lt p (AJ l a t q):=by
  have hk:q / 2 < m:=by omega
  have h1:=BO h hk
  have h2:∀ i,(Gt l a t (q / 2)).getD i 0 < p:=fun i=>by
    unfold Gt
    rw [List.getD_eq_getElem?_getD,List.getElem?_take]
    split
    · rw [List.getElem?_drop,← List.getD_eq_getElem?_getD];exact hl.get hp _
    · exact hp
  unfold AJ
  split
  · refine ⟨by rw [List.length_append,h1];rfl,fun i hi=>?_⟩
    rw [List.length_append,h1] at hi
    by_cases g:i < t
    · rw [cu (by omega)];exact h2 i
    · have hi:i < t+1:=hi
      rw [cS (by omega)];exact hp
  · refine ⟨by rw [List.length_cons,h1],fun i hi=>?_⟩
    cases i with
    | zero=>exact hp
    | succ i=>exact h2 i
theorem GU {net:aj} {S:aS} {n t m d:Nat} {dd:bi} (hT:S.T=(t:Int)) (ht:t≤2) (hm:m≤3) (hn:n≤7) (hd:d < n) (hl:net.ak.length=n) {l:List Nat} {a:Nat} (ha:net.ak.getD d ⟨[],0⟩=⟨l,((a:Nat):Int)⟩) (h:a+m*t≤l.length) (hl2:l.length≤1000) :
    ∃ T,jK ⟨net,S,((m:Nat):Int),dd⟩ ((d+1:Nat):Int)=some ((List.range (2*m)).map (AJ l a t),T)∧T.length=n∧T.getD d ⟨[],0⟩=⟨l,((a+m*t:Nat):Int)⟩∧∀ j,j≠d→T.getD j ⟨[],0⟩=net.ak.getD j ⟨[],0⟩:=by
  have e0:max 0 ((m:Nat):Int).toNat=m:=by omega
  have e1:((d+1:Nat):Int) - 1=((d:Nat):Int):=by omega
  unfold jK
  simp only
  rw [e0,bR (by omega),bS,Nat.sub_zero]
  obtain ⟨r,er,r1,r2,r3,r4⟩:=bf (body:=fun k1 (st:(List aD) × (List (List Nat)))=>fA ⟨net,S,((m:Nat):Int),dd⟩ ((d+1:Nat):Int) k1 st.1 st.2)
    (fun k st=>st.1.length=n∧st.1.getD d ⟨[],0⟩=⟨l,((a+k*t:Nat):Int)⟩∧(∀ j,j≠d→st.1.getD j ⟨[],0⟩=net.ak.getD j ⟨[],0⟩)∧st.2=(List.range (2*k)).map (AJ l a t)) (rem:=m) (k:=0) (s:=(net.ak,[]))
    ⟨hl,by rw [Nat.zero_mul];exact ha,fun _ _=>rfl,rfl⟩ (fun k st _ hk ⟨r1,r2,r3,r4⟩=>by
      obtain ⟨T,q⟩:=st
      simp only at r1 r2 r3 r4
      have hkm:k < m:=by omega
      have h1:k*t+t≤m*t:=by rw [← Nat.succ_mul];exact Nat.mul_le_mul_right t hkm
      have hwl:=BO h hkm
      have d1:2*k / 2=k:=by omega
      have d2:(2*k+1) / 2=k:=by omega
      have d3:2*k % 2=0:=by omega
      have d4:(2*k+1) % 2=1:=by omega
      have o1:AJ l a t (2*k)=Gt l a t k++[0]:=by unfold AJ;rw [if_pos d3,d1]
      have o2:AJ l a t (2*k+1)=0 :: Gt l a t k:=by unfold AJ;rw [if_neg (by omega),d2]
      unfold fA fG
      simp only
      rw [cC (by omega) (by omega),bS,e1,aT ⟨[],0⟩ (by omega) (by omega),bS,bS,Int.toNat_natCast,ix ⟨[],0⟩ (by omega),bS,r2,hT,Cl (by omega) hl2,bS]
      simp only
      rw [bS]
      show ∃ s',(cJ 8 ([]:List Nat) (Gt l a t k) >>= _)=some s'∧_
      rw [aL (by rw [hwl];simp only [List.length_nil];omega) (by rw [hwl];simp only [List.length_nil];omega),bS,List.nil_append,aL (by rw [hwl];simp only [List.length_cons,List.length_nil];omega) (by rw [hwl];simp only [List.length_cons,List.length_nil];omega),bS]
      show ∃ s',(cJ 8 ([0]:List Nat) (Gt l a t k) >>= _)=some s'∧_
      rw [aL (by rw [hwl];simp only [List.length_cons,List.length_nil];omega) (by rw [hwl];simp only [List.length_cons,List.length_nil];omega),bS,aL (by rw [r4,dL];simp only [List.length_cons,List.length_nil];omega) (by rw [r4,dL];simp only [List.length_cons,List.length_nil];omega),bS]
      refine ⟨_,rfl,by simp only [List.length_set];exact r1,?_,fun j hj=>?_,?_⟩
      · simp only
        rw [aJ (by omega),if_pos rfl,Nat.succ_mul,Nat.add_assoc]
      · simp only
        rw [aJ (by omega),if_neg (fun e=>hj e.symm)];exact r3 j hj
      · simp only
        rw [FB,List.map_append,r4]
        simp only [List.map_cons,List.map_nil,o1,o2];rfl)
  obtain ⟨T,q⟩:=r
  simp only at r1 r2 r3 r4
  rw [er,bS]
  rw [Nat.zero_add] at r2 r4
  subst r4
  exact ⟨T,rfl,r1,r2,r3⟩
/-- what is drawn by all -/
def GV (n t m:Nat) (tp:Nat→List Nat) (ps:Nat→Nat):List (List (List Nat)):=(List.range n).map fun d=>(List.range (2*m)).map (AJ (tp d) (ps d) t)
theorem Ef {net:aj} {S:aS} {n t m:Nat} (hN:S.N=(n:Int)) (hT:S.T=(t:Int)) (ht:t≤2) (hm:m≤3) (hn:n≤7) {tp:Nat→List Nat} {ps:Nat→Nat} (hts:zy n net.ak tp ps) (h:∀ d,d < n→ps d+m*t≤(tp d).length) {r1:ae} (hr1:r1.S=S) :
    ∃ T,dw (fun k1 (st:(List aD) × (List (List (List (List Nat)))) × (List Bool) × (List (List (List Nat))))=>dO net ((m:Nat):Int) r1 k1 st.1 st.2.1 st.2.2.1 st.2.2.2) n 1 (net.ak,[],[],[])=some (T,[],[],GV n t m tp ps)∧zy n T tp (fun i=>ps i+m*t):=by
  obtain ⟨r,er,q1,q2,q3,q4⟩:=bf (body:=fun k1 (st:(List aD) × (List (List (List (List Nat)))) × (List Bool) × (List (List (List Nat))))=>dO net ((m:Nat):Int) r1 k1 st.1 st.2.1 st.2.2.1 st.2.2.2)
    (fun k st=>st.1.length=n∧(∀ j,j < n→st.1.getD j ⟨[],0⟩=if j+1 < k then ⟨tp j,((ps j+m*t:Nat):Int)⟩ else ⟨tp j,((ps j:Nat):Int)⟩)∧(st.2.1=[]∧st.2.2.1=[])∧st.2.2.2=(List.range (k - 1)).map fun d=>(List.range (2*m)).map (AJ (tp d) (ps d) t)) (rem:=n) (k:=1) (s:=(net.ak,[],[],[]))
    ⟨hts.len,fun j hj=>by rw [if_neg (by omega)];exact hts.at_ j hj,⟨rfl,rfl⟩,rfl⟩ (fun k st h1 hk ⟨q1,q2,q3,q4⟩=>by
      obtain ⟨T,l3,l4,l5⟩:=st
      simp only at q1 q2 q3 q4
      obtain ⟨d,rfl⟩:∃ d,k=d+1:=⟨k - 1,by omega⟩
      have hd:d < n:=by omega
      have hT0:=q2 d hd
      rw [if_neg (by omega)] at hT0
      obtain ⟨T2,e,t1,t2,t3⟩:=GU (net:=⟨net.zw,net.af,net.au,T⟩) (S:=S) (dd:=⟨l3,l4⟩) hT ht hm hn hd q1 hT0 (h d hd) (hts.le d hd).2
      have hl5:l5.length≤7:=by rw [q4,dL];omega
      unfold dO
      rw [hr1,e,bS,aL (by simp only [List.length_cons,List.length_nil];omega) (by simp only [List.length_cons,List.length_nil];omega),bS]
      refine ⟨_,rfl,t1,fun j hj=>?_,q3,?_⟩
      · simp only
        by_cases g:j=d
        · subst g;rw [if_pos (by omega)];exact t2
        · rw [t3 j g]
          have:=q2 j hj
          simp only
          rw [this]
          by_cases g2:j < d
          · rw [if_pos (by omega),if_pos (by omega)]
          · rw [if_neg (by omega),if_neg (by omega)]
      · simp only
        rw [q4,Nat.add_sub_cancel,Nat.add_sub_cancel,List.range_succ,List.map_append];rfl)
  obtain ⟨T,l3,l4,l5⟩:=r
  simp only at q1 q2 q3 q4
  obtain ⟨rfl,rfl⟩:=q3
  rw [Nat.add_sub_cancel_left] at q4
  rw [er,q4]
  refine ⟨T,rfl,q1,fun j hj=>?_,fun j hj=>⟨h j hj,(hts.le j hj).2⟩⟩
  rw [q2 j hj,if_pos (by omega)]
theorem Kc {p n t m:Nat} (hp:0 < p) (ht:t=1 ∨ t=2) (hm3:m≤3) {T:List aD} {tp:Nat→List Nat} {ps:Nat→Nat} (hts:zy n T tp ps) (h:∀ d,d < n→ps d+m*(t+t*(t+1))≤(tp d).length) (hlt:∀ d,d < n→Lt p (tp d)) :
    Qs p n t (GV n t m tp ps) (rem n tp fun i=>ps i+m*t)∧∀ d,d < n→((GV n t m tp ps).getD d []).length=2*m:=by
  have hq:∀ d,d < n→(GV n t m tp ps).getD d []=(List.range (2*m)).map (AJ (tp d) (ps d) t):=fun d hd=>dA hd
  refine ⟨⟨dL,by simp [rem],fun d hd=>?_,fun d hd=>?_,fun d hd k hk=>?_⟩,fun d hd=>by rw [hq d hd,dL]⟩
  · rw [hq d hd,dL,wy hd,List.length_drop]
    have:=h d hd
    rcases ht with rfl | rfl
    · exact ⟨by omega,by show 2*m*1≤_;omega⟩
    · exact ⟨by omega,by show 2*m*3≤_;omega⟩
  · rw [wy hd,List.length_drop]
    refine ⟨by have:=(hts.le d hd).2;omega,fun i hi=>?_⟩
    rw [List.getD_eq_getElem?_getD,List.getElem?_drop,← List.getD_eq_getElem?_getD]
    exact (hlt d hd).get hp _
  · rw [hq d hd,dL] at hk
    rw [hq d hd,dA hk]
    refine Ke hp (hlt d hd) (m:=m) ?_ hk
    have:=h d hd
    rcases ht with rfl | rfl <;> omega
/-- sharings stand -/
theorem Com.std {w:ae} [NeZero w.S.P] {q:List (List (List Nat))} {n t c:Nat} {res:bi} (s:Sc w n t) (C:Com w q n t res) (F:Fm w.S.P n t c res) (hc:∀ d,d < n→(q.getD d []).length=c) {d k:Nat} (hd:d < n) (hk:k < c):∃ z,xH w n t (shr res n d k) z:=by
  have hp:=s.sup
  have hlt:=hp.lt
  have h13:=s.n13
  have h3:=s.t3
  have hk':k < (q.getD d []).length:=by rw [hc d hd];exact hk
  obtain ⟨f0,a1,a2,a3⟩:=C.sp d hd k hk' 0
  refine ⟨bT (P w.S.P f0) 0,wz,fun i hi=>by rw [km hi];exact F.ww i hi d hd k hk,fun i hi hhi j hj hhj=>?_,fun y=>?_⟩
  · rw [km hi,km hj]
    obtain ⟨b1,b2⟩:=F.ww i hi d hd k hk
    obtain ⟨c1,c2⟩:=F.ww j hj d hd k hk
    have e1:=(ja hp b2 (show j+1 < w.S.P by omega) (by omega)).2.2
    have e2:=(ja hp c2 (show i+1 < w.S.P by omega) (by omega)).2.2
    rw [← e1,← e2]
    exact congrArg _ (C.cs d hd k hk' i hi hhi j hj hhj)
  · by_cases g:y=0
    · subst g
      exact ⟨P w.S.P f0,by rw [lp];exact a2,fun i hi hh=>by rw [km hi];exact a3 i hi hh,fun _=>rfl⟩
    · obtain ⟨f,b1,b2,b3⟩:=C.sp d hd k hk' y
      exact ⟨P w.S.P f,by rw [lp];exact b2,fun i hi hh=>by rw [km hi];exact b3 i hi hh,fun h=>absurd h g⟩
section
variable {w:ae} [NeZero w.S.P] {n t:Nat}
/-- where q is x times u, q is 0 at 0 -/
theorem Jx (s:Sc w n t) {U Q:List (List Nat)} {a b:Fin w.S.P} (A:xH w n t U a) (B:xH w n t Q b) (h:∀ i,i < n→(((i:Nat):Int)+1) ∉ w.ah→o w.S.P ((Q.getD i []).getD 0 0)=o w.S.P (i+1)*o w.S.P ((U.getD i []).getD 0 0)):b=0:=by
  have h1:=s.t1
  obtain ⟨f,f1,f2,_⟩:=A.sp 0
  obtain ⟨g,g1,g2,g3⟩:=B.sp 0
  have:=yR s (f:=g) (g:=0 :: f) (by omega) (by rw [List.length_cons];omega) (fun i hi hc=>by
    rw [← g2 i hi (.inl hc),wP,h i hi hc,bT,← f2 i hi (.inl hc),wP];grind) 0
  rw [← g3 rfl,yG,this,oo]
/-- what is opened for an honest party -/
theorem Am (s:Sc w n t) {a:List (List Nat)} {c:Fin w.S.P} (A:xH w n t a c) {b:Nat} (hb:b < n) (hcb:(((b:Nat):Int)+1) ∉ w.ah) {f:List Nat} (hf:f.length≤t+1) (h:∀ i,i < n→(((i:Nat):Int)+1) ∉ w.ah→bT (P w.S.P (a.getD i [])) (o w.S.P (b+1))=bT (P w.S.P f) (o w.S.P (i+1))):o w.S.P (f.getD 0 0)=o w.S.P ((a.getD b []).getD 0 0):=by
  have:=yR s (f:=P w.S.P f) (g:=P w.S.P (a.getD b [])) (by rw [lp];omega) (by rw [lp,(A.r b hb).1];omega) (fun i hi hc=>by rw [← h i hi hc,A.cs i hi (.inl hc) b hb (.inl hcb)]) 0
  rwa [kZ,kZ] at this
/-- what is opened of an honest dealer -/
theorem C5 (s:Sc w n t) (ht:t≤2) {M:List (List Nat)} (hM:qJ w.S.P (t+1) (t+1) M) (hs:∀ i,i < t+1→∀ j,j < t+1→(M.getD i []).getD j 0=(M.getD j []).getD i 0) {b:Nat} (hb:b < n) {f:List Nat} (hf:f.length≤t+1) (h:∀ i,i < n→(((i:Nat):Int)+1) ∉ w.ah→bT (P w.S.P (Rw w.S.P M (i+1))) (o w.S.P (b+1))=bT (P w.S.P f) (o w.S.P (i+1))):o w.S.P (f.getD 0 0)=bT (P w.S.P (M.getD 0 [])) (o w.S.P (b+1)):=by
  have hp:=s.sup
  have hlt:=hp.lt
  have h13:=s.n13
  have hw:=fun i (hi:i < n)=>oI hp hM (by omega) (show i+1 < w.S.P by omega)
  have:=yR s (f:=P w.S.P f) (g:=P w.S.P (Rw w.S.P M (b+1))) (by rw [lp];omega) (by rw [lp,(hw b hb).2.2.1];omega) (fun i hi hc=>by
    have e1:=(ja hp (hw i hi).2.2.2.1 (show b+1 < w.S.P by omega) (by rw [(hw i hi).2.2.1];omega)).2.2
    have e2:=(ja hp (hw b hb).2.2.2.1 (show i+1 < w.S.P by omega) (by rw [(hw b hb).2.2.1];omega)).2.2
    rw [← h i hi hc,← e1,← e2,wx hp hM hs (by omega) (by omega) (by omega)]) 0
  rw [kZ,kZ] at this
  rw [this,(hw b hb).2.2.2.2 0 (by omega),oh (n:=t+1) (by rw [hM.row 0 (by omega)];exact Nat.le_refl _)]
  exact bZ fun k hk=>by rw [hs k hk 0 (by omega)]
end
end Pu

/- Plain laws of refreshing: the sharings of nothing stand. -/
set_option linter.unusedVariables false
namespace Pu
open Gw Gl Sp
theorem IG {t:Nat} {f r:List Nat} (ht:t=1 ∨ t=2) (hf:f.length=t+1) (hr:r.length=t*(t+1) / 2):(mx f r).getD 0 []=f:=by
  rcases ht with rfl | rfl
  · match f,hf with
    | [a,b],_=>match r,hr with
      | [c],_=>unfold mx;rw [FI];rfl
  · match f,hf with
    | [a,b,c],_=>match r,hr with
      | [d,e,g],_=>unfold mx;rw [FJ];rfl
theorem zy.congr {n:Nat} {T:List aD} {tp:Nat→List Nat} {ps ps':Nat→Nat} (h:zy n T tp ps) (e:∀ i,i < n→ps i=ps' i):zy n T tp ps' :=
  ⟨h.len,fun i hi=>by rw [h.at_ i hi,e i hi],fun i hi=>by rw [← e i hi];exact h.le i hi⟩
/-- the sum over the dealers that are left -/
theorem Ji {net:aj} {n t m:Nat} [NeZero net.zw.S.P] {res:bi} {out:List Bool} {mi:Int} {x1 x2 x3 x4 x5 x6 x7} (s:Sc net.zw n t) (F:Fm net.zw.S.P n t (2*m) res) (hn:n≤7) (ht:t≤2) (hm3:m≤3) (ho:out.length=n)
    (h:∀ d,d < n→out.getD d false=false→∀ k,k < m→xH net.zw n t (shr res n d (2*k+1)) 0) {k:Nat} (hk:k < m) {l:List (List (List Nat))} (hl:l.length=k):∃ a,gt ⟨net.zw,x1,x2,x3⟩ mi net.zw (res,x4,x5,x6) (out,x7) k l=some (l++[a])∧xH net.zw n t a 0:=by
  have hp:=s.sup
  have hlt:=hp.lt
  have e0:max 1 ((n:Int)+1).toNat - 1=n:=by omega
  obtain ⟨a0,ea,A0⟩:=D3 hp s
  unfold gt
  rw [ea,bS,s.N,e0]
  obtain ⟨r,er,hr⟩:=bf (body:=fun k3 (st:(List (List Nat)))=>jt ⟨net.zw,x1,x2,x3⟩ mi net.zw (res,x4,x5,x6) (out,x7) k k3 st) (fun _ a=>xH net.zw n t a 0) (rem:=n) (k:=1) (s:=a0) A0 (fun q a h1 hq A=>by
    obtain ⟨d,rfl⟩:∃ d,q=d+1:=⟨q - 1,by omega⟩
    have hd:d < n:=by omega
    have e1:((d+1:Nat):Int) - 1=((d:Nat):Int):=by omega
    unfold jt
    simp only
    rw [cC (by omega) (by omega),bS,e1,aT false (by omega) (by omega),bS,Int.toNat_natCast]
    cases hb:out.getD d false
    · obtain ⟨z,ez,Z⟩:=xH.add hp (by omega) (by omega) A (h d hd hb k hk)
      rw [nF,cT,yY F (by omega) (by omega) hd (by omega),bS]
      simp only
      rw [ez,bS]
      have z0:(0:Fin net.zw.S.P)+0=0:=by grind
      rw [z0] at Z
      exact ⟨_,rfl,Z⟩
    · rw [nT,cF]
      exact ⟨_,rfl,A⟩)
  rw [er,bS,aL (by simp only [List.length_cons,List.length_nil];omega) (by simp only [List.length_cons,List.length_nil];omega),bS]
  exact ⟨r,rfl,hr⟩
theorem Jy {net:aj} {n t m B:Nat} [NeZero net.zw.S.P] (s:Sc net.zw n t) (ht:t=1 ∨ t=2) (hn:n≤7) (hm:0 < m) (hm3:m≤3) {tp:Nat→List Nat} {ps:Nat→Nat} (hts:zy n net.ak tp ps) (h:∀ d,d < n→ps d+m*(t+t*(t+1))≤(tp d).length) (hlt:∀ d,d < n→Lt net.zw.S.P (tp d)) (hv:VB n B net.au) (hB:B≤300) (hr:0≤net.af∧net.af≤700) :
    ∃ all out round views T,dt net ((m:Nat):Int)=some (all,out,round,views,T)∧all.length=m∧out.length=n∧(∀ k,k < m→xH net.zw n t (all.getD k []) 0)∧(∀ d,d < n→Hn net.zw d→out.getD d false=false)∧VB n (B+9*n) views∧zy n T tp (fun i=>ps i+m*(t+t*(t+1)))∧net.af≤round∧round≤net.af+9:=by
  obtain ⟨w,round,v0,T0⟩:=net
  simp only at *
  have hp:=s.sup
  have hlt0:=hp.lt
  have h3:=s.t3
  have ht2:t≤2:=by omega
  have e0:max 1 ((n:Int)+1).toNat=n+1:=by omega
  have e1:max 0 ((m:Nat):Int).toNat=m:=by omega
  have hd0:∀ d,d < n→ps d+m*t≤(tp d).length:=fun d hd=>by
    have:=h d hd
    have:m*t≤m*(t+t*(t+1)):=Nat.mul_le_mul_left m (Nat.le_add_right ..)
    omega
  obtain ⟨T1,eT1,tT1⟩:=Ef (net:=⟨w,round,v0,T0⟩) s.N s.T ht2 hm3 hn hts hd0 (r1:=w) rfl
  obtain ⟨Q,hql⟩:=Kc hp.pos ht hm3 hts h hlt
  obtain ⟨res,v1,T2,eS,tT2,R,hv1,C,_⟩:=FR (net:=⟨w,round,v0,T1⟩) s ht hn Q tT1 hv (by omega) ⟨hr.1,by show round≤800;omega⟩
  simp only at eS R hv1 C
  have F:=Nw.fm R hql
  obtain ⟨all,v2,eC,_,hbl,hsay,hv2,_⟩:=xx (net:=⟨w,round+7,v1,T2⟩) s F hn hm hm3 hv1 (by omega) ⟨by show 0≤round+7;omega,by show round+7≤1000;omega⟩
  simp only at eC hbl hsay
  generalize hcl:DG n m (fun d=>res.bd.getD d false) all n=cl at *
  have hmem:∀ c,c ∈ cl ↔ c.1 < n∧c.2.1 < n∧c.2.2 < m∧(all.getD c.1 []).getD (c.2.1*m+c.2.2) 0≠0∧res.bd.getD c.2.1 false=false:=fun c=>by rw [← hcl];exact GQ hm
  have hlen:cl.length≤200:=by
    rw [← hcl]
    refine Nat.le_trans yC (Nat.le_trans (Nat.mul_le_mul hn (Nat.mul_le_mul hn hm3)) (by omega))
  have hex:∀ d k b,∃ f:List Nat,d < n→k < 2*m→f.length≤t+1∧∀ i,i < n→Hn w i→bT (P w.S.P (Az res i d k)) (o w.S.P (b+1))=bT (P w.S.P f) (o w.S.P (i+1)):=fun d k b=>by
    by_cases g:d < n∧k < 2*m
    · obtain ⟨f,_,f2,f3⟩:=C.sp d g.1 k (by rw [hql d g.1];exact g.2) (o w.S.P (b+1))
      exact ⟨f,fun _ _=>⟨f2,f3⟩⟩
    · exact ⟨[],fun h1 h2=>absurd ⟨h1,h2⟩ g⟩
  have hF:=fun d k b=>Classical.choose_spec (hex d k b)
  generalize hF0:(fun d k b=>Classical.choose (hex d k b))=F0 at *
  have hF:∀ d k b,d < n→k < 2*m→(F0 d k b).length≤t+1∧∀ i,i < n→Hn w i→bT (P w.S.P (Az res i d k)) (o w.S.P (b+1))=bT (P w.S.P (F0 d k b)) (o w.S.P (i+1)):=fun d k b=>by
    rw [← hF0];exact hF d k b
  obtain ⟨out,round3,v3,eJ,j1,j2,j3,j4,j5⟩:=ER (net:=⟨w,round+7+1,v2,T2⟩) (mi:=((m:Nat):Int)) (F0:=F0) s F hn ht2 hm3 hlen (fun c hc=>⟨((hmem c).1 hc).1,((hmem c).1 hc).2.1,((hmem c).1 hc).2.2.1⟩) hv2 (by omega) ⟨by show 0≤round+7+1;omega,by show round+7+1≤1000;omega⟩
    (fun d hd k hk b hb=>⟨(hF d k b hd hk).1,fun i hi hc=>(hF d k b hd hk).2 i hi (.inl hc)⟩)
  simp only at eJ j4 j5
  -- dealers that are left have dealt nothing
  have hz:∀ d,d < n→out.getD d false=false→∀ k,k < m→xH w n t (shr res n d (2*k+1)) 0:=fun d hd ho k hk=>by
    obtain ⟨a,A⟩:=Com.std s C F hql hd (show 2*k < 2*m by omega)
    obtain ⟨b,Bz⟩:=Com.std s C F hql hd (show 2*k+1 < 2*m by omega)
    have hnot:¬ (res.bd.getD d false=true ∨ ∃ c ∈ cl,c.2.1=d∧J0 w.S.P F0 c):=fun hh=>by
      rw [(j2 d hd).2 hh] at ho;cases ho
    have hb0:b=0:=Jx s A Bz (fun i hi hc=>by
      rw [km hi,km hi]
      obtain ⟨u1,u2⟩:=F.ww i hi d hd (2*k+1) (by omega)
      cases hh:hl w.S.P i (Az res i d (2*k)) (Az res i d (2*k+1))
      · have hdq:res.bd.getD d false=false:=by
          cases hx:res.bd.getD d false
          · rfl
          · exact absurd (.inl hx) hnot
        have hdm:d*m+k < n*m:=by
          have:d*m+m≤n*m:=by rw [← Nat.succ_mul];exact Nat.mul_le_mul_right m hd
          omega
        have q1:(d*m+k) / m=d:=by rw [Nat.mul_comm,Nat.mul_add_div hm,Nat.div_eq_of_lt hk,Nat.add_zero]
        have q2:(d*m+k) % m=k:=by rw [Nat.mul_comm,Nat.mul_add_mod,Nat.mod_eq_of_lt hk]
        have hin:(i,d,k) ∈ cl:=(hmem _).2 ⟨hi,hd,hk,by
          show (all.getD i []).getD (d*m+k) 0≠0
          rw [hsay i hi (.inl hc)]
          unfold says AA
          rw [dA hi,dA hdm,q1,q2,hh]
          decide,hdq⟩
        have hnb:¬ J0 w.S.P F0 (i,d,k):=fun hb=>hnot (.inr ⟨_,hin,rfl,hb⟩)
        unfold J0 at hnb
        simp only at hnb
        have hnb:=Classical.not_not.1 hnb
        have f1:=hF d (2*k+1) i hd (by omega)
        have f2:=hF d (2*k) i hd (by omega)
        have g1:=Am s Bz hi hc f1.1 (fun j hj hcj=>by rw [km hj];exact f1.2 j hj (.inl hcj))
        have g2:=Am s A hi hc f2.1 (fun j hj hcj=>by rw [km hj];exact f2.2 j hj (.inl hcj))
        rw [km hi] at g1 g2
        rw [← g1,← g2,hnb]
      · exact (Mu hp u2).1 hh)
    rw [hb0] at Bz
    exact Bz
  -- honest dealers are left
  have hhon:∀ d,d < n→Hn w d→out.getD d false=false:=fun d hd hh=>by
    cases hx:out.getD d false
    · rfl
    · exfalso
      rcases (j2 d hd).1 hx with h1 | ⟨c,hc,hcd,hb⟩
      · rw [R.nd d hd hh] at h1;cases h1
      · obtain ⟨c1,c2,c3,_,_⟩:=(hmem c).1 hc
        have hM:=fun k (hk:k < 2*m)=>wH hp.pos ht Q hd (show k < ((GV n t m tp ps).getD d []).length by rw [hql d hd];exact hk)
        have hrow:∀ k,k < 2*m→((Sm (GV n t m tp ps) (rem n tp fun i=>ps i+m*t) t d).getD k []).getD 0 []=AJ (tp d) (ps d) t k:=fun k hk=>by
          have hk':k < ((GV n t m tp ps).getD d []).length:=by rw [hql d hd];exact hk
          have hq:((GV n t m tp ps).getD d []).getD k []=AJ (tp d) (ps d) t k:=by
            unfold GV;rw [dA hd,dA hk]
          rw [AM hk',IG ht (Q.w d hd k hk').1 (y7 (Q.many d hd).2 hk'),hq]
        have hop:∀ k,k < 2*m→o w.S.P ((F0 d k c.1).getD 0 0)=bT (P w.S.P (AJ (tp d) (ps d) t k)) (o w.S.P (c.1+1)):=fun k hk=>by
          have f1:=hF d k c.1 hd hk
          rw [← hrow k hk]
          exact C5 s ht2 (hM k hk).2.1 (hM k hk).2.2 c1 f1.1 (fun i hi hci=>by
            rw [← f1.2 i hi (.inl hci)]
            have:=R.ok d hd hh i hi (.inl hci) k (by rw [hql d hd];exact hk)
            unfold Az
            rw [this])
        apply hb
        rw [hcd,hop _ (by omega),hop _ (by omega)]
        have d1:2*c.2.2 / 2=c.2.2:=by omega
        have d2:(2*c.2.2+1) / 2=c.2.2:=by omega
        unfold AJ
        rw [if_neg (by omega),if_pos (by omega),d1,d2]
        unfold P
        rw [List.map_cons,List.map_append,ug,bT,List.map_cons,List.map_nil,bT,bT,jp]
        grind
  unfold dt bv
  rw [bS,eF (by omega),cF,s.N,e0,bR (by omega),bS,Nat.add_sub_cancel,eT1,bS]
  simp only
  rw [eS,bS]
  simp only
  rw [eC,bS]
  simp only
  rw [eJ,bS,e1,bR (by omega),bS,Nat.sub_zero]
  obtain ⟨l,el,l1,l2⟩:=bf (body:=fun k2 (st:(List (List (List Nat))))=>gt ⟨w,round,v0,T0⟩ ((m:Nat):Int) w (res,round+7,v1,T2) (out,round3,v3) k2 st) (fun k l=>l.length=k∧∀ i,i < k→xH w n t (l.getD i []) 0) (rem:=m) (k:=0) (s:=[]) ⟨rfl,fun i hi=>by omega⟩ (fun k l _ hk ⟨l1,l2⟩=>by
    obtain ⟨a,ea,A⟩:=Ji (net:=⟨w,round,v0,T0⟩) (x1:=round) (x2:=v0) (x3:=T0) (x4:=round+7) (x5:=v1) (x6:=T2) (x7:=(round3,v3)) (mi:=((m:Nat):Int)) s F hn ht2 hm3 j1 hz (show k < m by omega) l1
    refine ⟨_,ea,by rw [List.length_append,l1];rfl,fun i hi=>?_⟩
    by_cases g:i < k
    · rw [cu (by omega)];exact l2 i g
    · rw [cS (by omega)];exact A)
  rw [Nat.zero_add] at l1 l2
  rw [el,bS]
  refine ⟨l,out,round3,v3,T2,rfl,l1,j1,l2,hhon,⟨j3.1,fun j hj=>?_⟩,tT2.congr fun i hi=>?_,by omega,by omega⟩
  · have:=j3.2 j hj
    omega
  · rw [hql i hi]
    rcases ht with rfl | rfl
    · show ps i+m*1+2*m*1=ps i+m*3;omega
    · show ps i+m*2+2*m*3=ps i+m*8;omega
end Pu

/- Laws of refreshing: sharings of nothing, refreshing again and again. -/
set_option linter.unusedVariables false
namespace Pu
open Gw Gl Sp
theorem FG {body:Nat→Unit→Option (Out Unit Bool)} {a n:Nat} (h:∀ k,a≤k→k < a+n→body k ()=some (.go ())):ox body n a ()=some (.go ()):=by
  obtain ⟨o,e,ho⟩:=em (body:=body) (fun k _=>True) (fun b=>False) (rem:=n) (k:=a) (s:=()) trivial (fun k s h1 hk hI=>⟨_,h k h1 hk,trivial⟩)
  cases o with
  | fin b=>exact ho.elim
  | go u=>exact e
theorem FF {body:Nat→Unit→Option (Out Unit Bool)} {n:Nat} (G:Nat→Prop) (h:∀ k,k < n→body k ()=some (.fin false) ∨ (body k ()=some (.go ())∧G k)):ox body n 0 ()=some (.fin false) ∨ (ox body n 0 ()=some (.go ())∧∀ k,k < n→G k):=by
  obtain ⟨o,e,ho⟩:=em (body:=body) (fun k _=>∀ j,j < k→G j) (fun b=>b=false) (rem:=n) (k:=0) (s:=()) (fun j hj=>by omega) (fun k s _ hk hI=>by
    rcases h k (by omega) with e | ⟨e,hg⟩
    · exact ⟨_,e,rfl⟩
    · refine ⟨_,e,fun j hj=>?_⟩
      by_cases g:j=k
      · subst g;exact hg
      · exact hI j (by omega))
  cases o with
  | fin b=>exact .inl (by rw [e,show b=false from ho])
  | go u=>exact .inr ⟨e,fun k hk=>ho k (by omega)⟩
theorem NX:lZ=some true:=by decide +kernel
theorem CV {w:ae} {m:Int} {most:Nat} (h4:most≤4) (hK:∀ x ∈ w.aa,x.K < 18446744073709551616):∃ b,ki w m ((most:Nat):Int)=some b∧(b=true→∃ n t k,Va w n t∧de w=some true∧n≤7∧(t=1 ∨ t=2)∧m=((k:Nat):Int)∧k≤most∧∀ i,i < n→k*(t+t*(t+1))≤(w.aA.getD i []).length):=by
  unfold ki
  obtain ⟨b,eb,hb⟩:=GX (w:=w) (lies:=((10:Nat):Int)) (words:=((100:Nat):Int)) hK (by omega) (by omega)
  rw [eb,bS]
  cases b
  · rw [nF,cT,bS,cT];exact ⟨_,rfl,fun h=>by cases h⟩
  · obtain ⟨n,t,v,hv⟩:=hb rfl
    have h13:=v.n13
    have t1:=v.t1
    have t3:=v.t3
    rw [nT,cF]
    by_cases g1:m < 0
    · rw [dT g1,cT,bS,cT];exact ⟨_,rfl,fun h=>by cases h⟩
    · rw [dF g1,cF]
      by_cases g2:m > ((most:Nat):Int)
      · rw [dT g2,cT,bS,cT];exact ⟨_,rfl,fun h=>by cases h⟩
      · rw [dF g2,cF,v.N,bS]
        by_cases g3:n≤7
        · obtain ⟨k,rfl⟩:=Int.eq_ofNat_of_zero_le (show 0≤m by omega)
          have ht:t=1 ∨ t=2:=by omega
          have hk:k≤most:=by omega
          have etl:iP w.S ((k:Nat):Int)=some ((k*(t+t*(t+1)):Nat):Int):=by
            unfold iP mC
            rw [v.T]
            have hk4:k≤4:=by omega
            rcases ht with rfl | rfl
            · rw [be (by omega) (by omega),bS,eM (by omega) (by omega),bS]
              show (some (1:Int) >>= _) >>= _=_
              rw [bS,bS,eM (by omega) (by omega),bS,be (by omega) (by omega),bS,eM (by omega) (by omega),bS]
              congr 1
            · rw [be (by omega) (by omega),bS,eM (by omega) (by omega),bS]
              show (some (3:Int) >>= _) >>= _=_
              rw [bS,bS,eM (by omega) (by omega),bS,be (by omega) (by omega),bS,eM (by omega) (by omega),bS]
              congr 1
          rw [dF (by omega),cF,v.tl,Nat.sub_zero]
          rcases FF (body:=fun k1 (st:Unit)=>kL w ((k:Nat):Int) k1) (n:=n) (fun i=>k*(t+t*(t+1))≤(w.aA.getD i []).length) (fun i hi=>by
            unfold kL
            rw [ix [] (by rw [v.tl];exact hi),bS,etl,bS]
            by_cases g:k*(t+t*(t+1))≤(w.aA.getD i []).length
            · rw [dF (by omega),cF];exact .inr ⟨rfl,g⟩
            · rw [dT (by omega),cT];exact .inl rfl) with e | ⟨e,h⟩
          · rw [e,bS,oF];exact ⟨_,rfl,fun h=>by cases h⟩
          · rw [e,bS,oG];exact ⟨_,rfl,fun _=>⟨n,t,k,v,hv,g3,ht,rfl,hk,h⟩⟩
        · rw [dT (by omega),cT];exact ⟨_,rfl,fun h=>by cases h⟩
theorem MY {w:ae} {n t:Nat} (v:Va w n t):zy n (w.aA.map fun l=>(⟨l,0⟩:aD)) (fun i=>w.aA.getD i []) (fun _=>0):=⟨by simp [v.tl],fun i hi=>by
  have:i < w.aA.length:=by rw [v.tl];exact hi
  simp [List.getD_eq_getElem?_getD,this],fun i hi=>⟨Nat.zero_le _,v.ts i hi⟩⟩
theorem Ov {n:Nat}:VB n 0 (List.replicate n []):=⟨by simp,fun j hj=>by simp [List.getD_eq_getElem?_getD,hj]⟩
/-- the sharings of nothing, none too -/
theorem Gk {net:aj} {n t m B:Nat} [NeZero net.zw.S.P] (s:Sc net.zw n t) (ht:t=1 ∨ t=2) (hn:n≤7) (hm3:m≤3) {tp:Nat→List Nat} {ps:Nat→Nat} (hts:zy n net.ak tp ps) (h:∀ d,d < n→ps d+m*(t+t*(t+1))≤(tp d).length) (hlt:∀ d,d < n→Lt net.zw.S.P (tp d)) (hv:VB n B net.au) (hB:B≤300) (hr:0≤net.af∧net.af≤700) :
    ∃ all out round views T,dt net ((m:Nat):Int)=some (all,out,round,views,T)∧all.length=m∧out.length=n∧(∀ k,k < m→xH net.zw n t (all.getD k []) 0)∧(∀ d,d < n→Hn net.zw d→out.getD d false=false)∧VB n (B+9*n) views∧zy n T tp (fun i=>ps i+m*(t+t*(t+1)))∧net.af≤round∧round≤net.af+9:=by
  by_cases hm:0 < m
  · exact Jy s ht hn hm hm3 hts h hlt hv hB hr
  · have:m=0:=by omega
    subst this
    unfold dt bv
    rw [bS,eT (a:=((0:Nat):Int)) (b:=0) rfl,cT,s.N,ca (by omega) (by omega) (by omega) (by omega),bS]
    refine ⟨_,_,_,_,_,rfl,rfl,by simp,fun k hk=>by omega,fun d hd _=>by simp [List.getD_eq_getElem?_getD,hd],⟨hv.1,fun j hj=>Nat.le_trans (hv.2 j hj) (by omega)⟩,hts.congr fun i hi=>by rw [Nat.zero_mul,Nat.add_zero],by omega,by omega⟩
theorem wU (w:ae) (m:Int) (hK:∀ y ∈ w.aa,y.K < 18446744073709551616):fI w m=some true:=by
  unfold fI
  rw [NX,bS,nT,cF]
  obtain ⟨b,eb,hb⟩:=CV (m:=m) (most:=2) (by omega) hK
  rw [eb,bS]
  cases b
  · rw [nF,cT]
  · obtain ⟨n,t,k,v,hv,hn,ht,rfl,hk,htl⟩:=hb rfl
    have e0:max 0 ((k:Nat):Int).toNat=k:=by omega
    have e1:max 0 ((n:Nat):Int).toNat=n:=by omega
    have hp:=v.sup
    have:NeZero w.S.P:=hp.ne
    obtain ⟨all,out,round,views,T,ez,z1,z2,z3,z4,_⟩:=Gk (net:=⟨w,0,List.replicate n [],w.aA.map fun l=>⟨l,0⟩⟩) (m:=k) v.toSc ht hn (by omega) (MY v) (fun d hd=>by rw [Nat.zero_add];exact htl d hd) (fun d hd=>v.tb d hd) Ov (by omega) (by show 0≤(0:Int)∧(0:Int)≤700;omega)
    simp only at z3 z4
    rw [nT,cF,K7 v,bS,sR,ez,bS]
    simp only
    rw [qF (by omega),cF,v.N,qF (by omega),bS,cF,e0,bR (by omega),bS,Nat.sub_zero,FG (fun i _ hi=>by
      have hi:i < k:=by omega
      obtain ⟨S,eS,s1,s2,s3,s4⟩:=Bd v.toSc hn (by omega) (z3 i hi)
      have h0:(S.getD 0 []).getD 0 0=0:=oi s3 hp.pos (by rw [s4,jp])
      unfold iC
      rw [ix [] (by simp only;omega),bS,eS,bS]
      simp only
      rw [nT,cF,ix [] (by omega),bS,ix 0 (by omega),bS,qF (by rw [h0];rfl),cF]),bS,oG,e1,bR (by omega),bS,Nat.sub_zero,FG (fun i _ hi=>by
      have hi:i < n:=by omega
      unfold iD
      rw [ix false (by simp only;omega),bS]
      simp only
      cases hx:out.getD i false
      · rw [cF]
      · rw [cT,be (by omega) (by omega),bS,xN,bS]
        by_cases g:(((i:Nat):Int)+1) ∉ w.ah
        · rw [z4 i hi (.inl g)] at hx;cases hx
        · rw [dF g,cF]),bS,oG]
end Pu
