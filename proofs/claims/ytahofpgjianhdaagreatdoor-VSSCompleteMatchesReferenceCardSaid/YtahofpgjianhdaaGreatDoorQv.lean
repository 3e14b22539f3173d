/- Plain laws of chapter 19: the laws' own functions. -/
import Derived.Test.YtahofpgjianhdaaGreatDoorQs
set_option linter.unusedVariables false
namespace Pu
open Gw Gl Sp
theorem Ka:lg=some true:=by decide +kernel
theorem wG {body:Nat→Unit→Option (Out Unit Bool)} {n:Nat} (G:Nat→Prop) (h:∀ k,k < n→(body k ()=some (.fin false)∧¬ G k) ∨ (body k ()=some (.go ())∧G k)) :
    (oA body n 0 ()=some (.fin false)∧¬ ∀ k,k < n→G k) ∨ (oA body n 0 ()=some (.go ())∧∀ k,k < n→G k):=by
  obtain ⟨o,e,ho⟩:=iT (body:=body) (fun k _=>∀ j,j < k→G j) (fun b=>b=false∧¬ ∀ k,k < n→G k) (rem:=n) (k:=0) (s:=()) (fun j hj=>by omega) (fun k s _ hk hI=>by
    have hkn:k < n:=by omega
    rcases h k hkn with ⟨e,hV⟩ | ⟨e,hV⟩
    · exact ⟨_,e,rfl,fun h=>hV (h k hkn)⟩
    · refine ⟨_,e,fun j hj=>?_⟩
      by_cases g:j=k
      · subst g;exact hV
      · exact hI j (by omega))
  cases o with
  | fin b => obtain ⟨h1, h2⟩ := ho
             subst h1
             exact .inl ⟨e,h2⟩
  | go u=>exact .inr ⟨e,fun k hk=>ho k (by omega)⟩
theorem nG {body:Nat→Unit→Option (Out Unit Bool)} {a n:Nat} (h:∀ k,a≤k→k < a+n→body k ()=some (.go ())):oA body n a ()=some (.go ()):=by
  obtain ⟨o,e,ho⟩:=iT (body:=body) (fun k _=>True) (fun b=>False) (rem:=n) (k:=a) (s:=()) trivial (fun k s h1 hk hI=>⟨_,h k h1 hk,trivial⟩)
  cases o with
  | fin b=>exact ho.elim
  | go u=>exact e
theorem yD {w:ab} {parties lies words:Int} (hK:∀ x ∈ w.aa,x.K < 18446744073709551616) (hl:lies≤40) (hw:words≤1000):∃ b,jp w parties lies words=some b∧(b=true→∃ n t,Va w n t∧(n:Int)≤parties∧ct w=some true):=by
  unfold jp
  by_cases g1:w.S.N > parties
  · rw [dT g1,cT,bS,cT];exact ⟨_,rfl,fun h=>by cases h⟩
  · rw [dF g1,cF]
    by_cases g2:((w.aa.length:Nat):Int) > lies
    · rw [dT g2,cT,bS,cT];exact ⟨_,rfl,fun h=>by cases h⟩
    · rw [dF g2,cF]
      by_cases g3:((w.au.length:Nat):Int) > parties
      · rw [dT g3,bS,cT];exact ⟨_,rfl,fun h=>by cases h⟩
      · rw [dF g3,bS,cF,Nat.sub_zero]
        obtain ⟨o,e,ho⟩:=iT (body:=fun k1 (st:Unit)=>jH w words k1) (fun k _=>∀ i,i < k→(((w.au.getD i []).length:Nat):Int)≤words) (fun r=>r=false) (rem:=w.au.length) (k:=0) (s:=()) (fun i hi=>by omega) (fun k _ _ hk h=>by
          unfold jH
          rw [ix [] (by omega),bS]
          by_cases g:(((w.au.getD k []).length:Nat):Int) > words
          · rw [dT g,cT];exact ⟨_,rfl,rfl⟩
          · rw [dF g,cF]
            refine ⟨_,rfl,fun i hi=>?_⟩
            by_cases e:i=k
            · subst e;omega
            · exact h i (by omega))
        rw [e,bS]
        cases o with
        | fin r=>rw [oF];exact ⟨_,rfl,fun h=>by rw [ho] at h;cases h⟩
        | go _ =>
          rw [oG]
          obtain ⟨b,eb,hb⟩:=Ft (w:=w)
          rw [eb,bS]
          refine ⟨_,rfl,fun hbt=>?_⟩
          subst hbt
          obtain ⟨n,t,par,c1,c2,c3,c4,c5,c6⟩:=hb rfl
          have hd:∀ x ∈ w.aa,Dv w.S x:=fun x hx=>by
            obtain ⟨i,hi,rfl⟩:=List.getElem_of_mem hx
            have:=c5 i hi
            rw [List.getD_eq_getElem?_getD,List.getElem?_eq_getElem hi] at this
            exact this
          refine ⟨n,t,{ sup:=par.sup,N:=par.N,T:=par.T,n4:=par.n4,n13:=par.n13,t1:=par.t1,t3:=par.t3,cl:=c1,cr:=c2,dl:=by omega,dv:=fun x hx=>?_,ord:=c3,tl:=c4,tb:=fun i hi=>c6 i (by omega),ts:=fun i hi=>by have:=ho i (by omega);omega,full:=fun x hx=>?_ },by omega,rfl⟩
          · obtain ⟨d1,d2,d3,d4,d5,d6,d7,d8,d9,d10,d11,d12⟩:=hd x hx
            rw [par.N] at d5 d11
            exact ⟨d4,d5,d2,d3,d10,d11,d12,hK x hx⟩
          · obtain ⟨d1,d2,d3,d4,d5,d6,d7,d8,d9,d10,d11,d12⟩:=hd x hx
            rw [par.N] at d7
            exact ⟨d1,d6,d7,d8,d9⟩
theorem uG {p:Nat} {l:List (List Nat)} {most:Int}:∃ b,ic p l most=some b∧(b=true ↔ ∀ j,j < l.length→(((l.getD j []).length:Nat):Int)≤most∧Lt p (l.getD j [])):=by
  unfold ic
  rw [Nat.sub_zero]
  rcases wG (body:=fun k1 (st:Unit)=>jI p l most k1) (n:=l.length) (fun j=>(((l.getD j []).length:Nat):Int)≤most∧Lt p (l.getD j [])) (fun k hk=>by
    unfold jI
    rw [ix [] hk,bS]
    by_cases g:(((l.getD k []).length:Nat):Int) > most
    · rw [dT g,cT];exact .inl ⟨rfl,fun h=>by omega⟩
    · rw [dF g,cF,Nat.sub_zero]
      rcases wG (body:=fun k2 (st:Unit)=>jJ p (l.getD k []) k2) (n:=(l.getD k []).length) (fun i=>(l.getD k []).getD i 0 < p) (fun i hi=>by
        unfold jJ
        rw [ix 0 hi,bS]
        by_cases g2:(l.getD k []).getD i 0 < p
        · rw [dF (by omega),cF];exact .inr ⟨rfl,g2⟩
        · rw [dT (by omega),cT];exact .inl ⟨rfl,g2⟩) with ⟨e,h⟩ | ⟨e,h⟩
      · rw [e,bS,oF];exact .inl ⟨rfl,fun h2=>h h2.2⟩
      · rw [e,bS,oG];exact .inr ⟨rfl,by omega,h⟩) with ⟨e,h⟩ | ⟨e,h⟩
  · rw [e,bS,oF];exact ⟨false,rfl,fun h2=>(by cases h2),fun h2=>absurd h2 h⟩
  · rw [e,bS,oG];exact ⟨true,rfl,fun _=>h,fun _=>rfl⟩
theorem Fw {s:bf} {t:Nat} (hT:s.T=(t:Int)) (ht:t=1 ∨ t=2):jX s=some ((t*(t+1) / 2:Nat):Int):=by
  unfold jX
  obtain ⟨h1,h2⟩:=wy ht
  rw [hT,bk (by omega) (by omega),bS,h1,bS,h2,bS]
theorem Fv {t:Nat} (ht:t=1 ∨ t=2):t*(t+1) / 2≤3:=by rcases ht with rfl | rfl <;> decide
theorem AL {w:ab} {q:List (List (List Nat))} {parties:Int} (h7:parties≤7) (hK:∀ x ∈ w.aa,x.K < 18446744073709551616):∃ b,jW w q parties ((8:Nat):Int) ((2:Nat):Int)=some b∧(b=true→∃ n t,Va w n t∧n≤7∧(t=1 ∨ t=2)∧Qs w.S.P n t q w.au∧ct w=some true):=by
  unfold jW
  obtain ⟨b,e,hb⟩:=yD (w:=w) (parties:=parties) (lies:=((8:Nat):Int)) (words:=((60:Nat):Int)) hK (by omega) (by omega)
  rw [e,bS]
  cases b with
  | false=>rw [nF,cT,bS,cT];exact ⟨_,rfl,fun h=>by cases h⟩
  | true =>
    obtain ⟨n,t,v,hn,hvs⟩:=hb rfl
    have hn7:n≤7:=by omega
    have h1:=v.t1
    have h3:=v.t3
    have ht:t=1 ∨ t=2:=by omega
    rw [nT,cF,v.N]
    by_cases g1:q.length=n
    · rw [qF (by omega),bS,cF,Nat.sub_zero,g1]
      rcases wG (body:=fun k1 (st:Unit)=>ko w q ((2:Nat):Int) k1) (n:=n) (fun d=>((q.getD d []).length≤2∧(q.getD d []).length*(t*(t+1) / 2)≤(w.au.getD d []).length)∧∀ k,k < (q.getD d []).length→((q.getD d []).getD k []).length=t+1∧Lt w.S.P ((q.getD d []).getD k [])) (fun d hd=>by
        unfold ko
        rw [ix [] (by omega),bS]
        by_cases g2:(q.getD d []).length≤2
        · have hr:=Fv ht
          have i1:(((q.getD d []).length:Nat):Int)*((t*(t+1) / 2:Nat):Int)=(((q.getD d []).length*(t*(t+1) / 2):Nat):Int):=by rw [Int.natCast_mul]
          have i2:(q.getD d []).length*(t*(t+1) / 2)≤2*3:=Nat.mul_le_mul g2 hr
          rw [dF (by omega),cF,ix [] (by rw [v.tl];exact hd),bS,Fw v.T ht,bS,gY (by rw [i1];omega) (by rw [i1];omega),bS,i1,bS]
          by_cases g3:(w.au.getD d []).length < (q.getD d []).length*(t*(t+1) / 2)
          · rw [dT (by omega),cT];exact .inl ⟨rfl,fun h=>by omega⟩
          · rw [dF (by omega),cF]
            obtain ⟨r,er,hr2⟩:=sT (step:=fun (st:Int)=>kp w q d st) (fun s=>∃ k:Nat,s=(k:Int)∧k≤(q.getD d []).length∧∀ j,j < k→((q.getD d []).getD j []).length=t+1∧Lt w.S.P ((q.getD d []).getD j []))
              (fun r=>(r=.inl false∧¬ ∀ k,k < (q.getD d []).length→((q.getD d []).getD k []).length=t+1∧Lt w.S.P ((q.getD d []).getD k [])) ∨ (r=.inr ()∧∀ k,k < (q.getD d []).length→((q.getD d []).getD k []).length=t+1∧Lt w.S.P ((q.getD d []).getD k []))) (fun s=>(((q.getD d []).length:Nat):Int).toNat - s.toNat) (fun s ⟨k,hs,hk,hj⟩=>by
                subst hs
                have et:((t:Nat):Int)+1=((t+1:Nat):Int):=by omega
                unfold kp
                rw [ix [] (by omega),bS]
                by_cases g4:k < (q.getD d []).length
                · rw [dT (by omega),cT,aO [] (by omega) (by omega),bS,Int.toNat_natCast,v.T,bk (by omega) (by omega),bS,et]
                  by_cases g5:((q.getD d []).getD k []).length=t+1
                  · rw [qF (by omega),cF]
                    obtain ⟨b,eb,hb2⟩:=uG (p:=w.S.P) (l:=q.getD d []) (most:=((t+1:Nat):Int))
                    rw [eb,bS]
                    cases b with
                    | false =>
                      rw [nF,cT]
                      refine ⟨_,rfl,.inl ⟨rfl,fun h=>?_⟩⟩
                      have:=hb2.2 (fun j hj2=>⟨by have:=(h j hj2).1;omega,(h j hj2).2⟩)
                      cases this
                    | true =>
                      rw [nT,cF,bk (by omega) (by omega),bS]
                      refine ⟨_,rfl,⟨k+1,by omega,by omega,fun j hj2=>?_⟩,by simp only [Int.toNat_natCast];omega⟩
                      by_cases g6:j=k
                      · subst g6;exact ⟨g5,(hb2.1 rfl j g4).2⟩
                      · exact hj j (by omega)
                  · rw [qT (by omega),cT]
                    exact ⟨_,rfl,.inl ⟨rfl,fun h=>g5 (h k g4).1⟩⟩
                · rw [dF (by omega),cF]
                  exact ⟨_,rfl,.inr ⟨rfl,fun k' hk'=>hj k' (by omega)⟩⟩) (s:=((0:Nat):Int)) ⟨0,rfl,by omega,fun j hj=>by omega⟩ (by simp only [Int.toNat_natCast];omega)
            rw [er,bS]
            rcases hr2 with ⟨h,h2⟩ | ⟨h,h2⟩
            · rw [h,Ld];exact .inl ⟨rfl,fun h3=>h2 h3.2⟩
            · rw [h,Lf];exact .inr ⟨rfl,⟨g2,by omega⟩,h2⟩
        · rw [dT (by omega),cT,bS,cT];exact .inl ⟨rfl,fun h=>g2 h.1.1⟩) with ⟨e,h⟩ | ⟨e,h⟩
      · rw [e,bS,oF];exact ⟨_,rfl,fun h=>by cases h⟩
      · rw [e,bS,oG]
        exact ⟨_,rfl,fun _=>⟨n,t,v,hn7,ht,⟨g1,v.tl,fun d hd=>⟨by have:=(h d hd).1.1;omega,(h d hd).1.2⟩,fun d hd=>⟨v.ts d hd,fun i hi=>v.tb d hd i hi⟩,fun d hd=>(h d hd).2⟩,hvs⟩⟩
    · rw [qT (by omega),bS,cT];exact ⟨_,rfl,fun h=>by cases h⟩
theorem Fc {q:List (List (List Nat))} (h:q.length≤1000):lQ q=some ((List.range q.length).map fun d=>(((q.getD d []).length:Nat):Int)):=by
  unfold lQ
  rw [Nat.sub_zero,fT (fun d=>(((q.getD d []).length:Nat):Int)) (fun d l hd hl=>by
    unfold nB
    rw [ix [] hd,bS,aY (by simp only [List.length_cons,List.length_nil];omega) (by simp only [List.length_cons,List.length_nil];omega),bS]),bS]
theorem EY {w:ab} {n t:Nat} {q:List (List (List Nat))} {res:bi} (v:Va w n t) (hq:q.length=n) (hm2:∀ d,d < n→(q.getD d []).length≤10) {tapes:List (List Nat)} (r:KQ w tapes q n t res):iI w.S res ((List.range n).map fun d=>(((q.getD d []).length:Nat):Int))=some true:=by
  have h13:=v.n13
  have hmx:max 0 w.S.N.toNat=n:=by rw [v.N];simp
  unfold iI
  rw [hmx,r.rl,r.dl,v.N,List.length_map,List.length_range,qF rfl,cF,cF,bS,cF,bU (by omega),bS,Nat.sub_zero,nG (fun i _ hi=>by
    have hin:i < n:=by omega
    unfold nw
    rw [ix [] (by rw [r.rl];exact hin),bS,r.row i hin,v.N,qF rfl,cF]
    have hmx:max 0 ((n:Nat):Int).toNat=n:=by simp
    rw [hmx,Nat.sub_zero,nG (fun d _ hd=>by
      have hdn:d < n:=by omega
      unfold ny
      rw [ix [] (by rw [r.row i hin];exact hdn),bS,ix 0 (by simp;exact hdn),bS,aW hdn,r.many i hin d hdn,qF rfl,cF]
      have h2:=hm2 d hdn
      have hmx:max 0 (((q.getD d []).length:Nat):Int).toNat=(q.getD d []).length:=by simp
      rw [hmx,bU (by omega),bS,Nat.sub_zero,nG (fun k _ hk=>by
        have hkm:k < (q.getD d []).length:=by omega
        have et:((t:Nat):Int)+1=((t+1:Nat):Int):=by omega
        have h3:=v.t3
        obtain ⟨b,eb,hb⟩:=uG (p:=w.S.P) (l:=(res.Rows.getD i []).getD d []) (most:=((t+1:Nat):Int))
        have hbt:=hb.2 (fun j hj=>by
          rw [r.many i hin d hdn] at hj
          obtain ⟨w1,w2⟩:=r.ww i hin d hdn j hj
          exact ⟨by omega,w2⟩)
        subst hbt
        unfold nA
        rw [ix [] (by rw [r.many i hin d hdn];exact hkm),bS,v.T,bk (by omega) (by omega),bS,et,(r.ww i hin d hdn k hkm).1,qF rfl,cF,eb,bS,nT,cF]),bS,oG]),bS,oG]),bS,oG]
/-- the tapes at the beginning -/
theorem Fu {w:ab} {n t:Nat} (v:Va w n t):rem n (fun i=>w.au.getD i []) (fun _=>0)=w.au:=fp [] (by simp [rem]) v.tl fun i hi=>by
  rw [sY hi];rfl
theorem KH {w:ab} {n t:Nat} (v:Va w n t):Gz n (w.au.map fun l=>(⟨l,0⟩:be)) (fun i=>w.au.getD i []) (fun _=>0):=⟨by simp [v.tl],fun i hi=>by
  have:i < w.au.length:=by rw [v.tl];exact hi
  simp [List.getD_eq_getElem?_getD,this],fun i hi=>⟨Nat.zero_le _,v.ts i hi⟩⟩
theorem K1 {n:Nat}:VB n 0 (List.replicate n []):=⟨by simp,fun j hj=>by rw [pH];exact Nat.le_refl 0⟩
theorem FA {w:ab} {n t:Nat} (v:Va w n t) (hv:ct w=some true):∃ zt,iY w=some (.inr ⟨w,0,List.replicate n [],zt⟩)∧Gy n zt (fun i=>w.au.getD i []) (fun _=>0):=by
  have h13:=v.n13
  unfold iY
  have hm:max 0 w.S.N.toNat=n:=by rw [v.N];simp
  rw [hv,bS,nT,cF,v.N,b0 (by omega) (by omega) (by omega) (by omega),bS,← v.N,hm,bU (by omega),bS,Nat.sub_zero,fT (fun j=>(⟨w.au.getD j [],0⟩:aA)) (fun k l hk hl=>by
    have hts:=v.ts k hk
    unfold nX mT
    rw [ix [] (by have:=v.tl;omega),bS,aY (by simp only [List.length_nil];omega) (by simp only [List.length_nil];omega),bS,bS,aY (by simp only [List.length_cons,List.length_nil];omega) (by simp only [List.length_cons,List.length_nil];omega),bS]
    rfl),bS]
  refine ⟨_,by rw [v.N,Int.toNat_natCast];rfl,by simp,fun i hi=>by rw [aW hi];rfl,fun i hi=>⟨Nat.zero_le _,v.ts i hi⟩⟩
theorem yX {l:List Nat}:jr l l=some true:=by
  unfold jr
  rw [qF rfl,cF,Nat.sub_zero,nG (fun k _ hk=>by
    unfold mE
    rw [ix 0 (by omega),bS,bS,qF rfl,cF]),bS,oG]
theorem yE {l:List (List Nat)}:jq l l=some true:=by
  unfold jq
  rw [qF rfl,cF,Nat.sub_zero,nG (fun k _ hk=>by
    unfold mD
    rw [ix [] (by omega),bS,bS,yX,bS,nT,cF]),bS,oG]
theorem Bm {r:bi}:jY r r=some true:=by
  unfold jY
  rw [qF rfl,cF,qF rfl,bS,cF,Nat.sub_zero,nG (fun k _ hk=>by
    unfold nC
    rw [ix false (by omega),bS,bS]
    have:(r.bj.getD k false != r.bj.getD k false)=false:=by simp
    rw [this,cF]),bS,oG,Nat.sub_zero,nG (fun k _ hk=>by
    unfold nD
    rw [ix [] (by omega),bS,bS,qF rfl,cF,Nat.sub_zero,nG (fun j _ hj=>by
      unfold nE
      rw [ix [] (by omega),bS,bS,yE,bS,nT,cF]),bS,oG]),bS,oG]
theorem HP {x:cV} [NeZero x.W.S.P] {n t:Nat} (v:Va x.W n t) (hn:n≤7) (ht:t=1 ∨ t=2) (Q:Qs x.W.S.P n t x.Q x.W.au) :
    ∃ res views T,lB ⟨x.W,0,List.replicate n [],x.W.au.map fun l=>⟨l,0⟩⟩ x.Q=some (res,7,views,T)∧pG x=some (.inr (⟨x.W,7,views,T⟩,res,true))∧VB n 100 views∧Trace x.W x.W.au n t 0 (List.replicate n []) x.Q res views:=by
  obtain ⟨res,views,T,e,_,h1,h2,_,h4⟩:=Db (net:=⟨x.W,0,List.replicate n [],x.W.au.map fun l=>⟨l,0⟩⟩) (q:=x.Q) v.toSc ht hn (tp:=fun i=>x.W.au.getD i []) (ps:=fun _=>0) (by rw [Fu v];exact Q) (KH v) K1 (by omega) (by show 0≤(0:Int)∧(0:Int)≤800;omega)
  rw [Fu v] at h1 h4
  simp only at h1 h4
  have e:lB ⟨x.W,0,List.replicate n [],x.W.au.map fun l=>⟨l,0⟩⟩ x.Q=some (res,7,views,T):=e
  refine ⟨res,views,T,e,?_,⟨h2.1,fun j hj=>Nat.le_trans (h2.2 j hj) (by omega)⟩,h4⟩
  unfold pG
  rw [Cv v,bS,sR,e,bS,Fc (by rw [Q.len];omega),bS,Q.len]
  simp only
  rw [EY v Q.len (fun d hd=>(Q.many d hd).1) h1,bS]
end Pu

/- Plain laws of chapter 19: sharing gives what the reference gives. -/
set_option linter.unusedVariables false
namespace Pu
open Gw Gl Sp
theorem rW (x:cV) (hK:∀ y ∈ x.W.aa,y.K < 18446744073709551616):dC x=some true:=by
  unfold dC
  obtain ⟨b,e,hb⟩:=AL (q:=x.Q) (parties:=((5:Nat):Int)) (by omega) hK
  rw [Ka,bS,nT,cF,e,bS]
  cases b with
  | false=>rw [nF,cT]
  | true =>
    obtain ⟨n,t,v,hn,ht,Q,hvs⟩:=hb rfl
    have hp:=v.sup
    haveI:NeZero x.W.S.P:=hp.ne
    obtain ⟨res,views,T,e0,er,hv,tr⟩:=HP v hn ht Q
    obtain ⟨zt,en,hz⟩:=FA v hvs
    obtain ⟨T',es,_⟩:=Bg (m:=⟨x.W,0,List.replicate n [],zt⟩) (q:=x.Q) v.toSc ht hn (tp:=fun i=>x.W.au.getD i []) (ps:=fun _=>0) (by rw [Fu v];exact Q) hz K1 (by omega) (by show 0≤(0:Int)∧(0:Int)≤800;omega) (res:=res) (views:=views) (by rw [Fu v];exact tr)
    have es:ju ⟨x.W,0,List.replicate n [],zt⟩ x.Q=some (res,7,views,T'):=es
    unfold lB at e0
    obtain ⟨r1,a1,a2⟩:=Ib e0
    obtain ⟨r2,a3,a4⟩:=Ib a2
    unfold ju at es
    obtain ⟨r3,c1,c2⟩:=Ib es
    obtain ⟨r4,c3,c4⟩:=Ib c2
    have a4:=Option.some.inj a4
    have c4:=Option.some.inj c4
    simp only [Prod.mk.injEq] at a4 c4
    rw [nT,cF,Cv v,bS,sR,en,bS,sR,a1,bS,a3,bS,c1,bS,c3,bS,a4.1,c4.1,Bm,bS,cT]
    unfold jl
    simp only
    rw [bS,a4.2.1];rfl
end Pu
