/- Plain laws of chapter 19: the laws' own functions. -/
import Derived.Test.YtahofpgjianhdaaGreatDoorQs
set_option linter.unusedVariables false
namespace Pu
open Gw Gl Sp
theorem KP:lx=some true:=by decide +kernel
theorem xe {body:Nat→Unit→Option (Out Unit Bool)} {n:Nat} (G:Nat→Prop) (h:∀ k,k < n→(body k ()=some (.fin false)∧¬ G k) ∨ (body k ()=some (.go ())∧G k)) :
    (oe body n 0 ()=some (.fin false)∧¬ ∀ k,k < n→G k) ∨ (oe body n 0 ()=some (.go ())∧∀ k,k < n→G k):=by
  obtain ⟨o,e,ho⟩:=i4 (body:=body) (fun k _=>∀ j,j < k→G j) (fun b=>b=false∧¬ ∀ k,k < n→G k) (rem:=n) (k:=0) (s:=()) (fun j hj=>by omega) (fun k s _ hk hI=>by
    have hkn:k < n:=by omega
    rcases h k hkn with ⟨e,hV⟩ | ⟨e,hV⟩
    · exact ⟨_,e,rfl,fun h=>hV (h k hkn)⟩
    · refine ⟨_,e,fun j hj=>?_⟩
      by_cases g:j=k
      · subst g;exact hV
      · exact hI j (by omega))
  cases o with
  | fin b => obtain ⟨h1, h2⟩ := ho
             subst h1
             exact .inl ⟨e,h2⟩
  | go u=>exact .inr ⟨e,fun k hk=>ho k (by omega)⟩
theorem lh {body:Nat→Unit→Option (Out Unit Bool)} {a n:Nat} (h:∀ k,a≤k→k < a+n→body k ()=some (.go ())):oe body n a ()=some (.go ()):=by
  obtain ⟨o,e,ho⟩:=i4 (body:=body) (fun k _=>True) (fun b=>False) (rem:=n) (k:=a) (s:=()) trivial (fun k s h1 hk hI=>⟨_,h k h1 hk,trivial⟩)
  cases o with
  | fin b=>exact ho.elim
  | go u=>exact e
theorem y7 {w:ab} {parties lies words:Int} (hK:∀ x ∈ w.aa,x.K < 18446744073709551616) (hl:lies≤40) (hw:words≤1000):∃ b,jw w parties lies words=some b∧(b=true→∃ n t,Va w n t∧(n:Int)≤parties∧cu w=some true):=by
  unfold jw
  by_cases g1:w.S.N > parties
  · rw [dT g1,cT,bS,cT];exact ⟨_,rfl,fun h=>by cases h⟩
  · rw [dF g1,cF]
    by_cases g2:((w.aa.length:Nat):Int) > lies
    · rw [dT g2,cT,bS,cT];exact ⟨_,rfl,fun h=>by cases h⟩
    · rw [dF g2,cF]
      by_cases g3:((w.av.length:Nat):Int) > parties
      · rw [dT g3,bS,cT];exact ⟨_,rfl,fun h=>by cases h⟩
      · rw [dF g3,bS,cF,Nat.sub_zero]
        obtain ⟨o,e,ho⟩:=i4 (body:=fun k1 (st:Unit)=>jP w words k1) (fun k _=>∀ i,i < k→(((w.av.getD i []).length:Nat):Int)≤words) (fun r=>r=false) (rem:=w.av.length) (k:=0) (s:=()) (fun i hi=>by omega) (fun k _ _ hk h=>by
          unfold jP
          rw [ix [] (by omega),bS]
          by_cases g:(((w.av.getD k []).length:Nat):Int) > words
          · rw [dT g,cT];exact ⟨_,rfl,rfl⟩
          · rw [dF g,cF]
            refine ⟨_,rfl,fun i hi=>?_⟩
            by_cases e:i=k
            · subst e;omega
            · exact h i (by omega))
        rw [e,bS]
        cases o with
        | fin r=>rw [oF];exact ⟨_,rfl,fun h=>by rw [ho] at h;cases h⟩
        | go _ =>
          rw [oG]
          obtain ⟨b,eb,hb⟩:=FW (w:=w)
          rw [eb,bS]
          refine ⟨_,rfl,fun hbt=>?_⟩
          subst hbt
          obtain ⟨n,t,par,c1,c2,c3,c4,c5,c6⟩:=hb rfl
          have hd:∀ x ∈ w.aa,Dv w.S x:=fun x hx=>by
            obtain ⟨i,hi,rfl⟩:=List.getElem_of_mem hx
            have:=c5 i hi
            rw [List.getD_eq_getElem?_getD,List.getElem?_eq_getElem hi] at this
            exact this
          refine ⟨n,t,{ sup:=par.sup,N:=par.N,T:=par.T,n4:=par.n4,n13:=par.n13,t1:=par.t1,t3:=par.t3,cl:=c1,cr:=c2,dl:=by omega,dv:=fun x hx=>?_,ord:=c3,tl:=c4,tb:=fun i hi=>c6 i (by omega),ts:=fun i hi=>by have:=ho i (by omega);omega,full:=fun x hx=>?_ },by omega,rfl⟩
          · obtain ⟨d1,d2,d3,d4,d5,d6,d7,d8,d9,d10,d11,d12⟩:=hd x hx
            rw [par.N] at d5 d11
            exact ⟨d4,d5,d2,d3,d10,d11,d12,hK x hx⟩
          · obtain ⟨d1,d2,d3,d4,d5,d6,d7,d8,d9,d10,d11,d12⟩:=hd x hx
            rw [par.N] at d7
            exact ⟨d1,d6,d7,d8,d9⟩
theorem u4 {p:Nat} {l:List (List Nat)} {most:Int}:∃ b,il p l most=some b∧(b=true ↔ ∀ j,j < l.length→(((l.getD j []).length:Nat):Int)≤most∧Lt p (l.getD j [])):=by
  unfold il
  rw [Nat.sub_zero]
  rcases xe (body:=fun k1 (st:Unit)=>jQ p l most k1) (n:=l.length) (fun j=>(((l.getD j []).length:Nat):Int)≤most∧Lt p (l.getD j [])) (fun k hk=>by
    unfold jQ
    rw [ix [] hk,bS]
    by_cases g:(((l.getD k []).length:Nat):Int) > most
    · rw [dT g,cT];exact .inl ⟨rfl,fun h=>by omega⟩
    · rw [dF g,cF,Nat.sub_zero]
      rcases xe (body:=fun k2 (st:Unit)=>jR p (l.getD k []) k2) (n:=(l.getD k []).length) (fun i=>(l.getD k []).getD i 0 < p) (fun i hi=>by
        unfold jR
        rw [ix 0 hi,bS]
        by_cases g2:(l.getD k []).getD i 0 < p
        · rw [dF (by omega),cF];exact .inr ⟨rfl,g2⟩
        · rw [dT (by omega),cT];exact .inl ⟨rfl,g2⟩) with ⟨e,h⟩ | ⟨e,h⟩
      · rw [e,bS,oF];exact .inl ⟨rfl,fun h2=>h h2.2⟩
      · rw [e,bS,oG];exact .inr ⟨rfl,by omega,h⟩) with ⟨e,h⟩ | ⟨e,h⟩
  · rw [e,bS,oF];exact ⟨false,rfl,fun h2=>(by cases h2),fun h2=>absurd h2 h⟩
  · rw [e,bS,oG];exact ⟨true,rfl,fun _=>h,fun _=>rfl⟩
theorem FZ {s:bi} {t:Nat} (hT:s.T=(t:Int)) (ht:t=1 ∨ t=2):kf s=some ((t*(t+1) / 2:Nat):Int):=by
  unfold kf
  obtain ⟨h1,h2⟩:=wW ht
  rw [hT,bk (by omega) (by omega),bS,h1,bS,h2,bS]
theorem FY {t:Nat} (ht:t=1 ∨ t=2):t*(t+1) / 2≤3:=by rcases ht with rfl | rfl <;> decide
theorem Bb {w:ab} {q:List (List (List Nat))} {parties:Int} (h7:parties≤7) (hK:∀ x ∈ w.aa,x.K < 18446744073709551616):∃ b,ka w q parties ((8:Nat):Int) ((2:Nat):Int)=some b∧(b=true→∃ n t,Va w n t∧n≤7∧(t=1 ∨ t=2)∧Qs w.S.P n t q w.av∧cu w=some true):=by
  unfold ka
  obtain ⟨b,e,hb⟩:=y7 (w:=w) (parties:=parties) (lies:=((8:Nat):Int)) (words:=((60:Nat):Int)) hK (by omega) (by omega)
  rw [e,bS]
  cases b with
  | false=>rw [nF,cT,bS,cT];exact ⟨_,rfl,fun h=>by cases h⟩
  | true =>
    obtain ⟨n,t,v,hn,hvs⟩:=hb rfl
    have hn7:n≤7:=by omega
    have h1:=v.t1
    have h3:=v.t3
    have ht:t=1 ∨ t=2:=by omega
    rw [nT,cF,v.N]
    by_cases g1:q.length=n
    · rw [qF (by omega),bS,cF,Nat.sub_zero,g1]
      rcases xe (body:=fun k1 (st:Unit)=>kB w q ((2:Nat):Int) k1) (n:=n) (fun d=>((q.getD d []).length≤2∧(q.getD d []).length*(t*(t+1) / 2)≤(w.av.getD d []).length)∧∀ k,k < (q.getD d []).length→((q.getD d []).getD k []).length=t+1∧Lt w.S.P ((q.getD d []).getD k [])) (fun d hd=>by
        unfold kB
        rw [ix [] (by omega),bS]
        by_cases g2:(q.getD d []).length≤2
        · have hr:=FY ht
          have i1:(((q.getD d []).length:Nat):Int)*((t*(t+1) / 2:Nat):Int)=(((q.getD d []).length*(t*(t+1) / 2):Nat):Int):=by rw [Int.natCast_mul]
          have i2:(q.getD d []).length*(t*(t+1) / 2)≤2*3:=Nat.mul_le_mul g2 hr
          rw [dF (by omega),cF,ix [] (by rw [v.tl];exact hd),bS,FZ v.T ht,bS,hU (by rw [i1];omega) (by rw [i1];omega),bS,i1,bS]
          by_cases g3:(w.av.getD d []).length < (q.getD d []).length*(t*(t+1) / 2)
          · rw [dT (by omega),cT];exact .inl ⟨rfl,fun h=>by omega⟩
          · rw [dF (by omega),cF]
            obtain ⟨r,er,hr2⟩:=tm (step:=fun (st:Int)=>kC w q d st) (fun s=>∃ k:Nat,s=(k:Int)∧k≤(q.getD d []).length∧∀ j,j < k→((q.getD d []).getD j []).length=t+1∧Lt w.S.P ((q.getD d []).getD j []))
              (fun r=>(r=.inl false∧¬ ∀ k,k < (q.getD d []).length→((q.getD d []).getD k []).length=t+1∧Lt w.S.P ((q.getD d []).getD k [])) ∨ (r=.inr ()∧∀ k,k < (q.getD d []).length→((q.getD d []).getD k []).length=t+1∧Lt w.S.P ((q.getD d []).getD k []))) (fun s=>(((q.getD d []).length:Nat):Int).toNat - s.toNat) (fun s ⟨k,hs,hk,hj⟩=>by
                subst hs
                have et:((t:Nat):Int)+1=((t+1:Nat):Int):=by omega
                unfold kC
                rw [ix [] (by omega),bS]
                by_cases g4:k < (q.getD d []).length
                · rw [dT (by omega),cT,aO [] (by omega) (by omega),bS,Int.toNat_natCast,v.T,bk (by omega) (by omega),bS,et]
                  by_cases g5:((q.getD d []).getD k []).length=t+1
                  · rw [qF (by omega),cF]
                    obtain ⟨b,eb,hb2⟩:=u4 (p:=w.S.P) (l:=q.getD d []) (most:=((t+1:Nat):Int))
                    rw [eb,bS]
                    cases b with
                    | false =>
                      rw [nF,cT]
                      refine ⟨_,rfl,.inl ⟨rfl,fun h=>?_⟩⟩
                      have:=hb2.2 (fun j hj2=>⟨by have:=(h j hj2).1;omega,(h j hj2).2⟩)
                      cases this
                    | true =>
                      rw [nT,cF,bk (by omega) (by omega),bS]
                      refine ⟨_,rfl,⟨k+1,by omega,by omega,fun j hj2=>?_⟩,by simp only [Int.toNat_natCast];omega⟩
                      by_cases g6:j=k
                      · subst g6;exact ⟨g5,(hb2.1 rfl j g4).2⟩
                      · exact hj j (by omega)
                  · rw [qT (by omega),cT]
                    exact ⟨_,rfl,.inl ⟨rfl,fun h=>g5 (h k g4).1⟩⟩
                · rw [dF (by omega),cF]
                  exact ⟨_,rfl,.inr ⟨rfl,fun k' hk'=>hj k' (by omega)⟩⟩) (s:=((0:Nat):Int)) ⟨0,rfl,by omega,fun j hj=>by omega⟩ (by simp only [Int.toNat_natCast];omega)
            rw [er,bS]
            rcases hr2 with ⟨h,h2⟩ | ⟨h,h2⟩
            · rw [h,LN];exact .inl ⟨rfl,fun h3=>h2 h3.2⟩
            · rw [h,Ly];exact .inr ⟨rfl,⟨g2,by omega⟩,h2⟩
        · rw [dT (by omega),cT,bS,cT];exact .inl ⟨rfl,fun h=>g2 h.1.1⟩) with ⟨e,h⟩ | ⟨e,h⟩
      · rw [e,bS,oF];exact ⟨_,rfl,fun h=>by cases h⟩
      · rw [e,bS,oG]
        exact ⟨_,rfl,fun _=>⟨n,t,v,hn7,ht,⟨g1,v.tl,fun d hd=>⟨by have:=(h d hd).1.1;omega,(h d hd).1.2⟩,fun d hd=>⟨v.ts d hd,fun i hi=>v.tb d hd i hi⟩,fun d hd=>(h d hd).2⟩,hvs⟩⟩
    · rw [qT (by omega),bS,cT];exact ⟨_,rfl,fun h=>by cases h⟩
theorem FM {q:List (List (List Nat))} (h:q.length≤1000):kb q=some ((List.range q.length).map fun d=>(((q.getD d []).length:Nat):Int)):=by
  unfold kb
  rw [Nat.sub_zero,fV (fun d=>(((q.getD d []).length:Nat):Int)) (fun d l hd hl=>by
    unfold ng
    rw [ix [] hd,bS,aV (by simp only [List.length_cons,List.length_nil];omega) (by simp only [List.length_cons,List.length_nil];omega),bS]),bS]
theorem Fy {w:ab} {n t:Nat} {q:List (List (List Nat))} {res:aW} (v:Va w n t) (hq:q.length=n) (hm2:∀ d,d < n→(q.getD d []).length≤10) {tapes:List (List Nat)} (r:Ln w tapes q n t res):iP w.S res ((List.range n).map fun d=>(((q.getD d []).length:Nat):Int))=some true:=by
  have h13:=v.n13
  have hmx:max 0 w.S.N.toNat=n:=by rw [v.N];simp
  unfold iP
  rw [hmx,r.rl,r.dl,v.N,List.length_map,List.length_range,qF rfl,cF,cF,bS,cF,bU (by omega),bS,Nat.sub_zero,lh (fun i _ hi=>by
    have hin:i < n:=by omega
    unfold na
    rw [ix [] (by rw [r.rl];exact hin),bS,r.row i hin,v.N,qF rfl,cF]
    have hmx:max 0 ((n:Nat):Int).toNat=n:=by simp
    rw [hmx,Nat.sub_zero,lh (fun d _ hd=>by
      have hdn:d < n:=by omega
      unfold nb
      rw [ix [] (by rw [r.row i hin];exact hdn),bS,ix 0 (by simp;exact hdn),bS,aY hdn,r.many i hin d hdn,qF rfl,cF]
      have h2:=hm2 d hdn
      have hmx:max 0 (((q.getD d []).length:Nat):Int).toNat=(q.getD d []).length:=by simp
      rw [hmx,bU (by omega),bS,Nat.sub_zero,lh (fun k _ hk=>by
        have hkm:k < (q.getD d []).length:=by omega
        have et:((t:Nat):Int)+1=((t+1:Nat):Int):=by omega
        have h3:=v.t3
        obtain ⟨b,eb,hb⟩:=u4 (p:=w.S.P) (l:=(res.Rows.getD i []).getD d []) (most:=((t+1:Nat):Int))
        have hbt:=hb.2 (fun j hj=>by
          rw [r.many i hin d hdn] at hj
          obtain ⟨w1,w2⟩:=r.ww i hin d hdn j hj
          exact ⟨by omega,w2⟩)
        subst hbt
        unfold nf
        rw [ix [] (by rw [r.many i hin d hdn];exact hkm),bS,v.T,bk (by omega) (by omega),bS,et,(r.ww i hin d hdn k hkm).1,qF rfl,cF,eb,bS,nT,cF]),bS,oG]),bS,oG]),bS,oG]
theorem Gb {l:List Nat}:iM l l=some true:=by
  unfold iM
  rw [qF rfl,cF,Nat.sub_zero,lh (fun k _ hk=>by
    unfold m8
    rw [ix 0 (by omega),bS,bS,qF rfl,cF]),bS,oG]
/-- the tapes at the beginning -/
theorem FX {w:ab} {n t:Nat} (v:Va w n t):rem n (fun i=>w.av.getD i []) (fun _=>0)=w.av:=fo [] (by simp [rem]) v.tl fun i hi=>by
  rw [tx hi];rfl
theorem Lf {w:ab} {n t:Nat} (v:Va w n t):GZ n (w.av.map fun l=>(⟨l,0⟩:bh)) (fun i=>w.av.getD i []) (fun _=>0):=⟨by simp [v.tl],fun i hi=>by
  have:i < w.av.length:=by rw [v.tl];exact hi
  simp [List.getD_eq_getElem?_getD,this],fun i hi=>⟨Nat.zero_le _,v.ts i hi⟩⟩
theorem LB {n:Nat}:VB n 0 (List.replicate n []):=⟨by simp,fun j hj=>by rw [pz];exact Nat.le_refl 0⟩
theorem F1 {w:ab} {n t:Nat} (v:Va w n t) (hv:cu w=some true):∃ zt,jb w=some (.inr ⟨w,0,List.replicate n [],zt⟩)∧GY n zt (fun i=>w.av.getD i []) (fun _=>0):=by
  have h13:=v.n13
  unfold jb
  have hm:max 0 w.S.N.toNat=n:=by rw [v.N];simp
  rw [hv,bS,nT,cF,v.N,b8 (by omega) (by omega) (by omega) (by omega),bS,← v.N,hm,bU (by omega),bS,Nat.sub_zero,fV (fun j=>(⟨w.av.getD j [],0⟩:aA)) (fun k l hk hl=>by
    have hts:=v.ts k hk
    unfold nG mI
    rw [ix [] (by have:=v.tl;omega),bS,aV (by simp only [List.length_nil];omega) (by simp only [List.length_nil];omega),bS,bS,aV (by simp only [List.length_cons,List.length_nil];omega) (by simp only [List.length_cons,List.length_nil];omega),bS]
    rfl),bS]
  refine ⟨_,by rw [v.N,Int.toNat_natCast];rfl,by simp,fun i hi=>by rw [aY hi];rfl,fun i hi=>⟨Nat.zero_le _,v.ts i hi⟩⟩
theorem zF {l:List Nat}:jz l l=some true:=by
  unfold jz
  rw [qF rfl,cF,Nat.sub_zero,lh (fun k _ hk=>by
    unfold mp
    rw [ix 0 (by omega),bS,bS,qF rfl,cF]),bS,oG]
theorem y8 {l:List (List Nat)}:jy l l=some true:=by
  unfold jy
  rw [qF rfl,cF,Nat.sub_zero,lh (fun k _ hk=>by
    unfold mo
    rw [ix [] (by omega),bS,bS,zF,bS,nT,cF]),bS,oG]
theorem BM {r:aW}:kg r r=some true:=by
  unfold kg
  rw [qF rfl,cF,qF rfl,bS,cF,Nat.sub_zero,lh (fun k _ hk=>by
    unfold ni
    rw [ix false (by omega),bS,bS]
    have:(r.bd.getD k false != r.bd.getD k false)=false:=by simp
    rw [this,cF]),bS,oG,Nat.sub_zero,lh (fun k _ hk=>by
    unfold nj
    rw [ix [] (by omega),bS,bS,qF rfl,cF,Nat.sub_zero,lh (fun j _ hj=>by
      unfold nk
      rw [ix [] (by omega),bS,bS,y8,bS,nT,cF]),bS,oG]),bS,oG]
theorem yD {v:List af} (h:v.length≤100000):j7 v v=some true:=by
  unfold j7 gM
  obtain ⟨r,e,hr⟩:=mQ (step:=fun (st:Int)=>dN v v st) (n:=v.length) (fun k s=>s=((k:Nat):Int)) (fun r=>r=.inr ()) (by omega) (s:=((0:Nat):Int)) rfl (fun k s hk hs=>by
    subst hs
    unfold dN jA
    rw [dT (by omega),cT,bS,cT,aO default (by omega) (by omega),bS,bS,eT rfl,cT,eT rfl,cT,Gb,bS,bS,nT,cF,bk (by omega) (by omega),bS]
    exact ⟨_,rfl,rfl⟩) (fun s hs=>by
    subst hs
    unfold dN
    rw [dF (by omega),cF,bS,cF]
    exact ⟨_,rfl,rfl⟩)
  rw [e,bS,hr,Ly,eT rfl,cT,bS];rfl
theorem BO {net:aB} {n i B:Nat} (hv:VB n B net.am) (hB:B≤1000) (hi:i < n) (hn:n≤13):kM net ((i+1:Nat):Int)=some (net.am.getD i []):=by
  have e:((i+1:Nat):Int) - 1=((i:Nat):Int):=by omega
  have h1:=hv.1
  have h2:=hv.2 i hi
  unfold kM
  rw [bY (by omega) (by omega),bS,e,aO [] (by omega) (by omega),bS,Int.toNat_natCast,aV (by simp only [List.length_nil];omega) (by simp only [List.length_nil];omega),bS,List.nil_append]
theorem zu {net:au} {n i B:Nat} (hv:VB n B net.am) (hB:B≤1000) (hi:i < n) (hn:n≤13):iv net ((i+1:Nat):Int)=some (net.am.getD i []):=by
  have e:((i+1:Nat):Int) - 1=((i:Nat):Int):=by omega
  have h1:=hv.1
  have h2:=hv.2 i hi
  unfold iv
  rw [bY (by omega) (by omega),bS,e,aO [] (by omega) (by omega),bS,Int.toNat_natCast,aV (by simp only [List.length_nil];omega) (by simp only [List.length_nil];omega),bS,List.nil_append]
theorem Is {x:cK} [NeZero x.W.S.P] {n t:Nat} (v:Va x.W n t) (hn:n≤7) (ht:t=1 ∨ t=2) (Q:Qs x.W.S.P n t x.Q x.W.av) :
    ∃ res views T,mL ⟨x.W,0,List.replicate n [],x.W.av.map fun l=>⟨l,0⟩⟩ x.Q=some (res,7,views,T)∧kO x=some (.inr (⟨x.W,7,views,T⟩,res,true))∧VB n 100 views∧Trace x.W x.W.av n t 0 (List.replicate n []) x.Q res views:=by
  obtain ⟨res,views,T,e,_,h1,h2,_,h4⟩:=DF (net:=⟨x.W,0,List.replicate n [],x.W.av.map fun l=>⟨l,0⟩⟩) (q:=x.Q) v.toSc ht hn (tp:=fun i=>x.W.av.getD i []) (ps:=fun _=>0) (by rw [FX v];exact Q) (Lf v) LB (by omega) (by show 0≤(0:Int)∧(0:Int)≤800;omega)
  rw [FX v] at h1 h4
  simp only at h1 h4
  have e:mL ⟨x.W,0,List.replicate n [],x.W.av.map fun l=>⟨l,0⟩⟩ x.Q=some (res,7,views,T):=e
  refine ⟨res,views,T,e,?_,⟨h2.1,fun j hj=>Nat.le_trans (h2.2 j hj) (by omega)⟩,h4⟩
  unfold kO
  rw [Ie v,bS,sR,e,bS,FM (by rw [Q.len];omega),bS,Q.len]
  simp only
  rw [Fy v Q.len (fun d hd=>(Q.many d hd).1) h1,bS]
end Pu

/- Plain laws of chapter 19: sharing gives what the reference gives. -/
set_option linter.unusedVariables false
namespace Pu
open Gw Gl Sp
theorem xY (x:cK) (hK:∀ y ∈ x.W.aa,y.K < 18446744073709551616):fq x=some true:=by
  unfold fq
  obtain ⟨b,e,hb⟩:=Bb (q:=x.Q) (parties:=((7:Nat):Int)) (by omega) hK
  rw [KP,bS,nT,cF,e,bS]
  cases b with
  | false=>rw [nF,cT]
  | true =>
    obtain ⟨n,t,v,hn,ht,Q,hvs⟩:=hb rfl
    have hp:=v.sup
    haveI:NeZero x.W.S.P:=hp.ne
    obtain ⟨res,views,T,_,er,hv,tr⟩:=Is v hn ht Q
    obtain ⟨zt,en,hz⟩:=F1 v hvs
    obtain ⟨T',es,_⟩:=BI (m:=⟨x.W,0,List.replicate n [],zt⟩) (q:=x.Q) v.toSc ht hn (tp:=fun i=>x.W.av.getD i []) (ps:=fun _=>0) (by rw [FX v];exact Q) hz LB (by omega) (by show 0≤(0:Int)∧(0:Int)≤800;omega) (res:=res) (views:=views) (by rw [FX v];exact tr)
    have es:io ⟨x.W,0,List.replicate n [],zt⟩ x.Q=some (res,7,views,T'):=es
    have hmx:max 1 (x.W.S.N+1).toNat=n+1:=by rw [v.N];omega
    rw [nT,cF,er,bS,sR,en,bS,sR]
    simp only
    rw [nT,cF,bS,cF,es,bS]
    simp only
    unfold jr ja
    simp only
    rw [BM,bS,nT,cF,bS,bS,qF rfl,bS,cF,hmx,bU (by omega),bS,Nat.add_sub_cancel,lh (fun k h1 h2=>by
      obtain ⟨i,rfl⟩:∃ i,k=i+1:=⟨k - 1,by omega⟩
      have hi:i < n:=by omega
      unfold gX
      simp only
      rw [BO (net:=⟨x.W,7,views,T⟩) hv (by omega) hi (by omega),bS,zu (net:=⟨x.W,7,views,T'⟩) hv (by omega) hi (by omega),bS,yD (by have:=hv.2 i hi;simp only;omega),bS,nT,cF]),bS,oG]
end Pu
