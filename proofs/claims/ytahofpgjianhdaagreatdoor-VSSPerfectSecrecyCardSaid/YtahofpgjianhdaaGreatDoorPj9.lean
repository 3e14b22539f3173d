/- Plain laws of chapter 19: the laws' own functions. -/
import Derived.Test.YtahofpgjianhdaaGreatDoorPj8
set_option linter.unusedVariables false
namespace Pu
open Gw Gl Sp
theorem aw19:privitylaw19_awake=some true:=by decide +kernel
theorem rgO_all {body:Nat→Unit→Option (Out Unit Bool)} {n:Nat} (G:Nat→Prop) (h:∀ k,k < n→(body k ()=some (.fin false)∧¬ G k) ∨ (body k ()=some (.go ())∧G k)) :
    (rgO body n 0 ()=some (.fin false)∧¬ ∀ k,k < n→G k) ∨ (rgO body n 0 ()=some (.go ())∧∀ k,k < n→G k):=by
  obtain ⟨o,e,ho⟩:=rgO_inv (body:=body) (fun k _=>∀ j,j < k→G j) (fun b=>b=false∧¬ ∀ k,k < n→G k) (rem:=n) (k:=0) (s:=()) (fun j hj=>by omega) (fun k s _ hk hI=>by
    have hkn:k < n:=by omega
    rcases h k hkn with ⟨e,hV⟩ | ⟨e,hV⟩
    · exact ⟨_,e,rfl,fun h=>hV (h k hkn)⟩
    · refine ⟨_,e,fun j hj=>?_⟩
      by_cases g:j=k
      · subst g;exact hV
      · exact hI j (by omega))
  cases o with
  | fin b => obtain ⟨h1, h2⟩ := ho
             subst h1
             exact .inl ⟨e,h2⟩
  | go u=>exact .inr ⟨e,fun k hk=>ho k (by omega)⟩
theorem rgO_true {body:Nat→Unit→Option (Out Unit Bool)} {a n:Nat} (h:∀ k,a≤k→k < a+n→body k ()=some (.go ())):rgO body n a ()=some (.go ()):=by
  obtain ⟨o,e,ho⟩:=rgO_inv (body:=body) (fun k _=>True) (fun b=>False) (rem:=n) (k:=a) (s:=()) trivial (fun k s h1 hk hI=>⟨_,h k h1 hk,trivial⟩)
  cases o with
  | fin b=>exact ho.elim
  | go u=>exact e
theorem light19_ok {w:T_api_Scenario} {parties lies words:Int} (hK:∀ x ∈ w.Deviations,x.K < 18446744073709551616) (hl:lies≤40) (hw:words≤100):∃ b,privityref12_Light w parties lies words=some b∧(b=true→∃ n t,Va w n t∧(n:Int)≤parties):=by
  unfold privityref12_Light
  by_cases g1:w.S.N > parties
  · rw [dT g1,cT,bS,cT];exact ⟨_,rfl,fun h=>by cases h⟩
  · rw [dF g1,cF]
    by_cases g2:((w.Deviations.length:Nat):Int) > lies
    · rw [dT g2,cT,bS,cT];exact ⟨_,rfl,fun h=>by cases h⟩
    · rw [dF g2,cF]
      by_cases g3:((w.Tapes.length:Nat):Int) > parties
      · rw [dT g3,bS,cT];exact ⟨_,rfl,fun h=>by cases h⟩
      · rw [dF g3,bS,cF,Nat.sub_zero]
        obtain ⟨o,e,ho⟩:=rgO_inv (body:=fun k1 (st:Unit)=>privityref12_Light_L0 w words k1) (fun k _=>∀ i,i < k→(((w.Tapes.getD i []).length:Nat):Int)≤words) (fun r=>r=false) (rem:=w.Tapes.length) (k:=0) (s:=()) (fun i hi=>by omega) (fun k _ _ hk h=>by
          unfold privityref12_Light_L0
          rw [ix [] (by omega),bS]
          by_cases g:(((w.Tapes.getD k []).length:Nat):Int) > words
          · rw [dT g,cT];exact ⟨_,rfl,rfl⟩
          · rw [dF g,cF]
            refine ⟨_,rfl,fun i hi=>?_⟩
            by_cases e:i=k
            · subst e;omega
            · exact h i (by omega))
        rw [e,bS]
        cases o with
        | fin r=>rw [oF];exact ⟨_,rfl,fun h=>by rw [ho] at h;cases h⟩
        | go _ =>
          rw [oG]
          obtain ⟨b,eb,hb⟩:=refScen (w:=w)
          rw [eb,bS]
          refine ⟨_,rfl,fun hbt=>?_⟩
          subst hbt
          obtain ⟨n,t,par,c1,c2,c3,c4,c5,c6⟩:=hb rfl
          have hd:∀ x ∈ w.Deviations,Dv w.S x:=fun x hx=>by
            obtain ⟨i,hi,rfl⟩:=List.getElem_of_mem hx
            have:=c5 i hi
            rw [List.getD_eq_getElem?_getD,List.getElem?_eq_getElem hi] at this
            exact this
          refine ⟨n,t,{ sup:=par.sup,N:=par.N,T:=par.T,n4:=par.n4,n13:=par.n13,t1:=par.t1,t3:=par.t3,cl:=c1,cr:=c2,dl:=by omega,dv:=fun x hx=>?_,ord:=c3,tl:=c4,tb:=fun i hi=>c6 i (by omega),ts:=fun i hi=>by have:=ho i (by omega);omega,full:=fun x hx=>?_ },by omega⟩
          · obtain ⟨d1,d2,d3,d4,d5,d6,d7,d8,d9,d10,d11,d12⟩:=hd x hx
            rw [par.N] at d5 d11
            exact ⟨d4,d5,d2,d3,d10,d11,d12,hK x hx⟩
          · obtain ⟨d1,d2,d3,d4,d5,d6,d7,d8,d9,d10,d11,d12⟩:=hd x hx
            rw [par.N] at d7
            exact ⟨d1,d6,d7,d8,d9⟩
theorem below14_ok {p:Nat} {l:List (List Nat)} {most:Int}:∃ b,privityref14_Below p l most=some b∧(b=true ↔ ∀ j,j < l.length→(((l.getD j []).length:Nat):Int)≤most∧Lt p (l.getD j [])):=by
  unfold privityref14_Below
  rw [Nat.sub_zero]
  rcases rgO_all (body:=fun k1 (st:Unit)=>privityref14_Below_L0 p l most k1) (n:=l.length) (fun j=>(((l.getD j []).length:Nat):Int)≤most∧Lt p (l.getD j [])) (fun k hk=>by
    unfold privityref14_Below_L0
    rw [ix [] hk,bS]
    by_cases g:(((l.getD k []).length:Nat):Int) > most
    · rw [dT g,cT];exact .inl ⟨rfl,fun h=>by omega⟩
    · rw [dF g,cF,Nat.sub_zero]
      rcases rgO_all (body:=fun k2 (st:Unit)=>privityref14_Below_L1 p (l.getD k []) k2) (n:=(l.getD k []).length) (fun i=>(l.getD k []).getD i 0 < p) (fun i hi=>by
        unfold privityref14_Below_L1
        rw [ix 0 hi,bS]
        by_cases g2:(l.getD k []).getD i 0 < p
        · rw [dF (by omega),cF];exact .inr ⟨rfl,g2⟩
        · rw [dT (by omega),cT];exact .inl ⟨rfl,g2⟩) with ⟨e,h⟩ | ⟨e,h⟩
      · rw [e,bS,oF];exact .inl ⟨rfl,fun h2=>h h2.2⟩
      · rw [e,bS,oG];exact .inr ⟨rfl,by omega,h⟩) with ⟨e,h⟩ | ⟨e,h⟩
  · rw [e,bS,oF];exact ⟨false,rfl,fun h2=>(by cases h2),fun h2=>absurd h2 h⟩
  · rw [e,bS,oG];exact ⟨true,rfl,fun _=>h,fun _=>rfl⟩
theorem rest_ok {s:T_api_Params} {t:Nat} (hT:s.T=(t:Int)) (ht:t=1 ∨ t=2):privityref19_Rest s=some ((t*(t+1) / 2:Nat):Int):=by
  unfold privityref19_Rest
  obtain ⟨h1,h2⟩:=half_ok ht
  rw [hT,addI_some (by omega) (by omega),bS,h1,bS,h2,bS]
theorem rest_le {t:Nat} (ht:t=1 ∨ t=2):t*(t+1) / 2≤3:=by rcases ht with rfl | rfl <;> decide
theorem fair19_ok {w:T_api_Scenario} {q:List (List (List Nat))} (hK:∀ x ∈ w.Deviations,x.K < 18446744073709551616):∃ b,privityref19_Fair w q ((7:Nat):Int) ((8:Nat):Int) ((2:Nat):Int)=some b∧(b=true→∃ n t,Va w n t∧n≤7∧(t=1 ∨ t=2)∧Qs w.S.P n t q w.Tapes):=by
  unfold privityref19_Fair
  obtain ⟨b,e,hb⟩:=light19_ok (w:=w) (parties:=((7:Nat):Int)) (lies:=((8:Nat):Int)) (words:=((60:Nat):Int)) hK (by omega) (by omega)
  rw [e,bS]
  cases b with
  | false=>rw [nF,cT,bS,cT];exact ⟨_,rfl,fun h=>by cases h⟩
  | true =>
    obtain ⟨n,t,v,hn⟩:=hb rfl
    have hn7:n≤7:=by omega
    have h1:=v.t1
    have h3:=v.t3
    have ht:t=1 ∨ t=2:=by omega
    rw [nT,cF,v.N]
    by_cases g1:q.length=n
    · rw [qF (by omega),bS,cF,Nat.sub_zero,g1]
      rcases rgO_all (body:=fun k1 (st:Unit)=>privityref19_Fair_L0 w q ((2:Nat):Int) k1) (n:=n) (fun d=>((q.getD d []).length≤2∧(q.getD d []).length*(t*(t+1) / 2)≤(w.Tapes.getD d []).length)∧∀ k,k < (q.getD d []).length→((q.getD d []).getD k []).length=t+1∧Lt w.S.P ((q.getD d []).getD k [])) (fun d hd=>by
        unfold privityref19_Fair_L0
        rw [ix [] (by omega),bS]
        by_cases g2:(q.getD d []).length≤2
        · have hr:=rest_le ht
          have i1:(((q.getD d []).length:Nat):Int)*((t*(t+1) / 2:Nat):Int)=(((q.getD d []).length*(t*(t+1) / 2):Nat):Int):=by rw [Int.natCast_mul]
          have i2:(q.getD d []).length*(t*(t+1) / 2)≤2*3:=Nat.mul_le_mul g2 hr
          rw [dF (by omega),cF,ix [] (by rw [v.tl];exact hd),bS,rest_ok v.T ht,bS,mulI_some (by rw [i1];omega) (by rw [i1];omega),bS,i1,bS]
          by_cases g3:(w.Tapes.getD d []).length < (q.getD d []).length*(t*(t+1) / 2)
          · rw [dT (by omega),cT];exact .inl ⟨rfl,fun h=>by omega⟩
          · rw [dF (by omega),cF]
            obtain ⟨r,er,hr2⟩:=lpO_big (step:=fun (st:Int)=>privityref19_Fair_L1 w q d st) (fun s=>∃ k:Nat,s=(k:Int)∧k≤(q.getD d []).length∧∀ j,j < k→((q.getD d []).getD j []).length=t+1∧Lt w.S.P ((q.getD d []).getD j []))
              (fun r=>(r=.inl false∧¬ ∀ k,k < (q.getD d []).length→((q.getD d []).getD k []).length=t+1∧Lt w.S.P ((q.getD d []).getD k [])) ∨ (r=.inr ()∧∀ k,k < (q.getD d []).length→((q.getD d []).getD k []).length=t+1∧Lt w.S.P ((q.getD d []).getD k []))) (fun s=>(((q.getD d []).length:Nat):Int).toNat - s.toNat) (fun s ⟨k,hs,hk,hj⟩=>by
                subst hs
                have et:((t:Nat):Int)+1=((t+1:Nat):Int):=by omega
                unfold privityref19_Fair_L1
                rw [ix [] (by omega),bS]
                by_cases g4:k < (q.getD d []).length
                · rw [dT (by omega),cT,idx_getD [] (by omega) (by omega),bS,Int.toNat_natCast,v.T,addI_some (by omega) (by omega),bS,et]
                  by_cases g5:((q.getD d []).getD k []).length=t+1
                  · rw [qF (by omega),cF]
                    obtain ⟨b,eb,hb2⟩:=below14_ok (p:=w.S.P) (l:=q.getD d []) (most:=((t+1:Nat):Int))
                    rw [eb,bS]
                    cases b with
                    | false =>
                      rw [nF,cT]
                      refine ⟨_,rfl,.inl ⟨rfl,fun h=>?_⟩⟩
                      have:=hb2.2 (fun j hj2=>⟨by have:=(h j hj2).1;omega,(h j hj2).2⟩)
                      cases this
                    | true =>
                      rw [nT,cF,addI_some (by omega) (by omega),bS]
                      refine ⟨_,rfl,⟨k+1,by omega,by omega,fun j hj2=>?_⟩,by simp only [Int.toNat_natCast];omega⟩
                      by_cases g6:j=k
                      · subst g6;exact ⟨g5,(hb2.1 rfl j g4).2⟩
                      · exact hj j (by omega)
                  · rw [qT (by omega),cT]
                    exact ⟨_,rfl,.inl ⟨rfl,fun h=>g5 (h k g4).1⟩⟩
                · rw [dF (by omega),cF]
                  exact ⟨_,rfl,.inr ⟨rfl,fun k' hk'=>hj k' (by omega)⟩⟩) (s:=((0:Nat):Int)) ⟨0,rfl,by omega,fun j hj=>by omega⟩ (by simp only [Int.toNat_natCast];omega)
            rw [er,bS]
            rcases hr2 with ⟨h,h2⟩ | ⟨h,h2⟩
            · rw [h,sbL];exact .inl ⟨rfl,fun h3=>h2 h3.2⟩
            · rw [h,sbR];exact .inr ⟨rfl,⟨g2,by omega⟩,h2⟩
        · rw [dT (by omega),cT,bS,cT];exact .inl ⟨rfl,fun h=>g2 h.1.1⟩) with ⟨e,h⟩ | ⟨e,h⟩
      · rw [e,bS,oF];exact ⟨_,rfl,fun h=>by cases h⟩
      · rw [e,bS,oG]
        exact ⟨_,rfl,fun _=>⟨n,t,v,hn7,ht,⟨g1,v.tl,fun d hd=>(h d hd).1,fun d hd=>⟨v.ts d hd,fun i hi=>v.tb d hd i hi⟩,fun d hd=>(h d hd).2⟩⟩⟩
    · rw [qT (by omega),bS,cT];exact ⟨_,rfl,fun h=>by cases h⟩
theorem many_ok {q:List (List (List Nat))} (h:q.length≤100):privityref19_Many q=some ((List.range q.length).map fun d=>(((q.getD d []).length:Nat):Int)):=by
  unfold privityref19_Many
  rw [Nat.sub_zero,rgS_tab' (fun d=>(((q.getD d []).length:Nat):Int)) (fun d l hd hl=>by
    unfold privityref19_Many_L0
    rw [ix [] hd,bS,appO_some (by simp only [List.length_cons,List.length_nil];omega) (by simp only [List.length_cons,List.length_nil];omega),bS]),bS]
theorem form_ok {w:T_api_Scenario} {n t:Nat} {q:List (List (List Nat))} {res:T_api_VSSResult} (v:Va w n t) (hq:q.length=n) (hm2:∀ d,d < n→(q.getD d []).length≤2) (r:Res w q n t res):privityref19_Form w.S res ((List.range n).map fun d=>(((q.getD d []).length:Nat):Int))=some true:=by
  have h13:=v.n13
  have hmx:max 0 w.S.N.toNat=n:=by rw [v.N];simp
  unfold privityref19_Form
  rw [hmx,r.rl,r.dl,v.N,List.length_map,List.length_range,qF rfl,cF,cF,bS,cF,ckN_some (by omega),bS,Nat.sub_zero,rgO_true (fun i _ hi=>by
    have hin:i < n:=by omega
    unfold privityref19_Form_L0
    rw [ix [] (by rw [r.rl];exact hin),bS,r.row i hin,v.N,qF rfl,cF]
    have hmx:max 0 ((n:Nat):Int).toNat=n:=by simp
    rw [hmx,Nat.sub_zero,rgO_true (fun d _ hd=>by
      have hdn:d < n:=by omega
      unfold privityref19_Form_L1
      rw [ix [] (by rw [r.row i hin];exact hdn),bS,ix 0 (by simp;exact hdn),bS,map_getD hdn,r.many i hin d hdn,qF rfl,cF]
      have h2:=hm2 d hdn
      have hmx:max 0 (((q.getD d []).length:Nat):Int).toNat=(q.getD d []).length:=by simp
      rw [hmx,ckN_some (by omega),bS,Nat.sub_zero,rgO_true (fun k _ hk=>by
        have hkm:k < (q.getD d []).length:=by omega
        have et:((t:Nat):Int)+1=((t+1:Nat):Int):=by omega
        have h3:=v.t3
        obtain ⟨b,eb,hb⟩:=below14_ok (p:=w.S.P) (l:=(res.Rows.getD i []).getD d []) (most:=((t+1:Nat):Int))
        have hbt:=hb.2 (fun j hj=>by
          rw [r.many i hin d hdn] at hj
          obtain ⟨w1,w2⟩:=r.ww i hin d hdn j hj
          exact ⟨by omega,w2⟩)
        subst hbt
        unfold privityref19_Form_L2
        rw [ix [] (by rw [r.many i hin d hdn];exact hkm),bS,v.T,addI_some (by omega) (by omega),bS,et,(r.ww i hin d hdn k hkm).1,qF rfl,cF,eb,bS,nT,cF]),bS,oG]),bS,oG]),bS,oG]
theorem same_ok {l:List Nat}:privityref05_Same l l=some true:=by
  unfold privityref05_Same
  rw [qF rfl,cF,Nat.sub_zero,rgO_true (fun k _ hk=>by
    unfold privityref05_Same_L0
    rw [ix 0 (by omega),bS,bS,qF rfl,cF]),bS,oG]
theorem in19_ok {l:List Int} {k:Int}:privityref12_In l k=some (decide (k ∈ l)):=by
  unfold privityref12_In
  rw [Nat.sub_zero]
  rcases rgO_find (body:=fun k1 (st:Unit)=>privityref12_In_L0 l k k1) (n:=l.length) (fun i=>l.getD i 0=k) (fun i hi=>by
    unfold privityref12_In_L0
    rw [ix 0 hi,bS]
    by_cases g:l.getD i 0=k
    · rw [eT g,cT];exact .inl ⟨rfl,g⟩
    · rw [eF g,cF];exact .inr ⟨rfl,g⟩) with ⟨e,h⟩ | ⟨e,h⟩
  · rw [e,bS,oF]
    obtain ⟨i,hi,h2⟩:=h
    rw [dT (by rw [← h2];exact getD_in hi)]
  · rw [e,bS,oG,dF (fun hm=>by
      obtain ⟨i,hi,h2⟩:=List.getElem_of_mem hm
      exact h i hi (by rw [List.getD_eq_getElem?_getD,List.getElem?_eq_getElem hi];exact h2))]
theorem run_ok {x:T_privitylaw19_Play} [NeZero x.W.S.P] {n t:Nat} (v:Va x.W n t) (hn:n≤7) (ht:t=1 ∨ t=2) (Q:Qs x.W.S.P n t x.Q x.W.Tapes) :
    ∃ res views T,privitylaw19_run x=some (.inr (⟨x.W,7,views,T⟩,res,true))∧Res x.W x.Q n t res∧VB n 100 views∧(x.W.Deviations=[]→Zv n views)∧Com x.W x.Q n t res∧Trace x.W n t x.Q views:=by
  obtain ⟨res,views,T,e,h1,h2,h3⟩:=share_ok v ht hn Q
  refine ⟨res,views,T,?_,h1,h2,h3⟩
  unfold privitylaw19_run
  rw [new_ok v,bS,sR,e,bS,many_ok (by rw [Q.len];omega),bS,Q.len]
  simp only
  rw [form_ok v Q.len (fun d hd=>(Q.many d hd).1) h1,bS]
end Pu
