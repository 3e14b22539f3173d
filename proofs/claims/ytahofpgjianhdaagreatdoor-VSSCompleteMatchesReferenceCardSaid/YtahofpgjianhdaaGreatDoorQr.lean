/- Plain laws of the reference's network: it does as the program's does. -/
import Derived.Test.YtahofpgjianhdaaGreatDoorPi
import Derived.Test.YtahofpgjianhdaaGreatDoorPk
set_option linter.unusedVariables false
namespace Pu
open Gw Gl Sp Lean.Grind
theorem ux {S:Type} {b c:Nat→S→Option S} (I:Nat→S→Prop):∀ {rem k:Nat} {s:S},I k s→(∀ j s,k≤j→j < k+rem→I j s→∃ s',b j s=some s'∧c j s=some s'∧I (j+1) s')→∃ s',cW b rem k s=some s'∧cW c rem k s=some s'∧I (k+rem) s'
  | 0,k,s,h,_=>⟨s,rfl,rfl,h⟩
  | rem+1,k,s,h,hb=>by
    obtain ⟨s1,e1,e1',h1⟩:=hb k s (Nat.le_refl k) (by omega) h
    obtain ⟨s2,e2,e2',h2⟩:=ux I (rem:=rem) (k:=k+1) h1 (fun j s h3 h4 h5=>hb j s (by omega) (by omega) h5)
    exact ⟨s2,by simp only [cW,e1,e2],by simp only [cW,e1',e2'],by rw [show k+(rem+1)=k+1+rem by omega];exact h2⟩
theorem rB {S:Type} {c:Nat→S→Option S}:∀ {rem k:Nat} {s:S},cW c rem (k+1) s=cW (fun j=>c (j+1)) rem k s
  | 0,_,_=>rfl
  | rem+1,k,s=>by
    simp only [cW]
    cases c (k+1) s with
    | none=>rfl
    | some s'=>exact rB
theorem wH {S:Type} {b c:Nat→S→Option S}:∀ {rem k:Nat} {s r:S},(∀ j s s',b j s=some s'→c j s=some s')→cW b rem k s=some r→cW c rem k s=some r
  | 0,_,_,_,_,h=>h
  | rem+1,k,s,r,hb,h=>by
    simp only [cW] at h ⊢
    cases e:b k s with
    | none=>rw [e] at h;cases h
    | some s'=>rw [e] at h;rw [hb k s s' e];exact wH hb h
theorem Ib {α β:Type} {x:Option α} {f:α→Option β} {y:β} (h:(x >>= f)=some y):∃ a,x=some a∧f a=some y:=by
  cases e:x with
  | none=>rw [e,bN] at h;cases h
  | some a=>rw [e,bS] at h;exact ⟨a,rfl,h⟩
theorem kA {α β:Type} {x y:Option α} {f g:α→Option β} {r:β} (hxy:∀ a,x=some a→y=some a) (hfg:∀ a,f a=some r→g a=some r) (h:(x >>= f)=some r):(y >>= g)=some r:=by
  cases e:x with
  | none=>rw [e,bN] at h;cases h
  | some a=>rw [e,bS] at h;rw [hxy a e,bS];exact hfg a h
theorem tf {w:ab} {i:Int}:fc w i=some (decide (i ∈ w.ah)):=by
  unfold fc
  rw [Nat.sub_zero]
  obtain ⟨o,e,ho⟩:=iT (body:=fun k1 (st:Unit)=>kJ w i k1) (fun k _=>∀ q,q < k→w.ah.getD q 0≠i) (fun r=>r=true∧i ∈ w.ah) (rem:=w.ah.length) (k:=0) (s:=()) (fun q hq=>by omega) (fun k _ _ hk h=>by
    unfold kJ
    have hkl:k < w.ah.length:=by omega
    rw [ix 0 hkl,bS]
    by_cases g:w.ah.getD k 0=i
    · rw [eT g,cT]
      refine ⟨_,rfl,rfl,?_⟩
      rw [← g,List.getD_eq_getElem?_getD,List.getElem?_eq_getElem hkl]
      exact List.getElem_mem hkl
    · rw [eF g,cF]
      refine ⟨_,rfl,fun q hq=>?_⟩
      by_cases c:q=k
      · rw [c];exact g
      · exact h q (by omega))
  rw [e,bS]
  cases o with
  | fin r=>rw [oF,ho.1,dT ho.2]
  | go _ =>
    rw [oG,dF]
    intro hv
    obtain ⟨q,hq,hqe⟩:=List.getElem_of_mem hv
    refine ho q (by omega) ?_
    rw [List.getD_eq_getElem?_getD,List.getElem?_eq_getElem hq];exact hqe
theorem yL {l:List Nat} {i:Int}:lO l i=iU l i:=rfl
theorem xQ {p a:Nat} (hp:0 < p):rc a p=some (a % p):=by unfold rc;rw [if_neg (by omega)]
/-- a deviation -/
theorem Al {w:ab} {n t:Nat} (s:Sc w n t) {x:aS} {l said said':List Nat} (hx:x ∈ w.aa) (hl:Lt w.S.P l) (hll:l.length≤1000) (hs:Lt w.S.P said) (hsl:said.length≤1000) (he:x.Kind=3→said'=said) :
    iH w x l said'=hJ w x l said:=by
  have hp:=s.sup
  have hlt:=hp.lt
  obtain ⟨d1,d2,d3,d4,d5,d6,d7,d8⟩:=s.dv x hx
  unfold iH hJ
  by_cases k4:x.Kind=4
  · rw [eT k4,cT,cT]
  · rw [eF k4,cF,cF]
    by_cases ha:x.At < (l.length:Int)
    · have hk:=Nat.mod_lt x.K hp.pos
      have hat:x.At.toNat < l.length:=by omega
      have hla:=hl _ hat
      have hi:=aO 0 d3 ha
      rw [dF (show ¬ x.At < 0 by omega),cF,dF (show ¬ x.At ≥ ((l.length:Nat):Int) by omega),bS,cF,cF,aY (by simp;omega) (by simp;omega),List.nil_append,xQ hp.pos,vE hp d8,xh (by omega)]
      by_cases k1:x.Kind=1
      · simp only [eT k1,cT,bS]
      · by_cases k2:x.Kind=2
        · have a1:=ry hp (a:=l.getD x.At.toNat 0) (b:=x.K % w.S.P) (by omega)
          have a2:=sr hp (a:=l.getD x.At.toNat 0) (b:=x.K % w.S.P) (by omega)
          simp only [eF k1,cF,eT k2,cT,hi,bS,a1,a2]
        · by_cases k3:x.Kind=3
          · obtain ⟨y,ey,hy⟩:=Ay (l:=said) (i:=x.aV) (by omega)
            have hyp:=hy _ hp.pos hs
            by_cases g:x.Of ∈ w.ah
            · have hm0:x.K % w.S.P*0 % w.S.P=0:=by simp
              have e0:(l.getD x.At.toNat 0+x.K % w.S.P*0 % w.S.P) % w.S.P=l.getD x.At.toNat 0:=by rw [hm0,Nat.add_zero,Nat.mod_eq_of_lt hla]
              have a1:=tD hp hk hp.pos
              have a2:=sr hp (a:=l.getD x.At.toNat 0) (b:=x.K % w.S.P*0 % w.S.P) (by rw [hm0];omega)
              simp only [eF k1,eF k2,cF,eT k3,cT,tf,gx,bS,dT g,nT,hi,a1,a2,e0,fj hat]
            · have hm:=Nat.mod_lt (x.K % w.S.P*y) hp.pos
              have a1:=tD hp hk hyp
              have a2:=sr hp (a:=l.getD x.At.toNat 0) (b:=x.K % w.S.P*y % w.S.P) (by omega)
              have a3:=rA hp hk (b:=y) (by omega)
              have a4:=ry hp (a:=l.getD x.At.toNat 0) (b:=x.K % w.S.P*y % w.S.P) (by omega)
              have a5:rc y w.S.P=some y:=by rw [xQ hp.pos,Nat.mod_eq_of_lt hyp]
              simp only [eF k1,eF k2,cF,eT k3,cT,tf,gx,bS,he k3,dF g,nF,hi,yL,ey,a1,a2,a3,a4,a5]
          · simp only [eF k1,eF k2,eF k3,cF,bS]
    · rw [dF (show ¬ x.At < 0 by omega),cF,dT (show x.At ≥ ((l.length:Nat):Int) by omega),bS,cT,cT]
/-- the deviations of a round -/
theorem AB {w:ab} {n t L:Nat} (s:Sc w n t) {out:List (List (List Nat))} {round:Int} (ho:Sq w.S.P n L out) (hL:L≤1000) :
    ∃ all,bl w round out=some all∧e6 w round out=some all:=by
  have h13:=s.n13
  unfold bl e6
  rw [ho.len,b0 (by omega) (by omega) (by omega) (by omega),bS,Nat.sub_zero,Int.toNat_natCast]
  obtain ⟨l3,e3,h1,h2⟩:=bZ (body:=fun k1 (st:(List (List (List Nat))))=>cA out k1 st) (rem:=n) (k:=0) (s:=List.replicate n [])
    (fun k l=>l.length=n∧∀ i,i < k→l.getD i []=out.getD i []) ⟨by simp,fun i hi=>by omega⟩ (fun k l _ hk ⟨h1,h2⟩=>by
      have hk':k < n:=by omega
      unfold cA
      rw [ho.s1 hk',bS,od (by rw [ho.row k hk'];omega),bS,ix [] (by omega),bS,bS]
      refine ⟨_,rfl,by rw [List.length_set];exact h1,fun i hi=>?_⟩
      rw [bb (by omega)]
      by_cases g:k=i
      · rw [if_pos g,g]
      · rw [if_neg g];exact h2 i (by omega))
  have hl3:l3=out:=by
    apply List.ext_getElem?
    intro i
    by_cases g:i < n
    · rw [ix [] (by omega),ix [] (by rw [ho.len];omega),h2 i (by omega)]
    · rw [List.getElem?_eq_none (by omega),List.getElem?_eq_none (by rw [ho.len];omega)]
  subst hl3
  obtain ⟨l4,e4,h4⟩:=bZ (body:=fun k1 (st:(List (List (List Nat))))=>fK l3 k1 st) (rem:=n) (k:=0) (s:=([]:List (List (List Nat))))
    (fun k l=>l=l3.take k) (by simp) (fun k l _ hk h=>by
      have hk':k < n:=by omega
      have hll:l.length=k:=by rw [h];simp;omega
      have hrow:=ho.row k hk'
      unfold fK
      rw [ho.s1 hk',bS,aY (by simp only [List.length_nil];omega) (by simp only [List.length_nil];omega),bS,List.nil_append,aY (by simp only [List.length_cons,List.length_nil];omega) (by simp only [List.length_cons,List.length_nil];omega),bS]
      refine ⟨_,rfl,?_⟩
      rw [List.take_add_one,ho.s1 hk',h];rfl)
  have hl4:l4=l3:=by rw [h4,Nat.zero_add,List.take_of_length_le (by omega)]
  subst hl4
  rw [e3,bS,e4,bS,Nat.sub_zero]
  obtain ⟨all,e,e',_⟩:=ux (b:=fun k2 (st:(List (List (List Nat))))=>dm w round l4 k2 st) (c:=fun k2 (st:(List (List (List Nat))))=>fL w round l4 k2 st) (rem:=w.aa.length) (k:=0) (s:=l4)
    (fun _ all=>Sq w.S.P n L all) ho (fun k all _ hk k1=>by
      have hkd:k < w.aa.length:=by omega
      unfold dm fL
      rw [ix default hkd,bS,bS]
      have hx:w.aa.getD k default ∈ w.aa:=by
        rw [List.getD_eq_getElem?_getD,List.getElem?_eq_getElem hkd];exact List.getElem_mem hkd
      generalize w.aa.getD k default=x at hx
      obtain ⟨d1,d2,d3,d4,d5,d6,d7,d8⟩:=s.dv x hx
      unfold gZ
      by_cases g:x.Round=round∧x.From ∈ w.ah
      · rw [eT g.1,cT,gx,bS,bS,dT g.2,nT,cF,qF g.1,cF,tf,bS,bS,dT g.2,nT,cF]
        have hf:x.From.toNat - 1 < n:=by omega
        have hfe:(x.From - 1).toNat=x.From.toNat - 1:=by omega
        obtain ⟨said,es,hs1,hs2,hs3⟩:∃ said,(bif x.Kind == (3:Int) then
            gM x.Of (1:Int) >>= fun x6=>eD l4 x6 >>= fun x7=>gM x.From (1:Int) >>= fun x8=>eD x7 x8 >>= fun x9=>some x9
          else some ([]:List Nat))=some said∧Lt w.S.P said∧said.length≤1000∧∃ said',ia l4 x=some said'∧(x.Kind=3→said'=said):=by
          have hh:∃ said',ia l4 x=some said'∧(1≤x.Of→said'=(l4.getD (x.Of - 1).toNat []).getD (x.From - 1).toNat []):=by
            unfold ia
            by_cases c:x.Of < 1
            · rw [dT c,cT];exact ⟨_,rfl,fun h=>by omega⟩
            · have hoe:(x.Of - 1).toNat < n:=by omega
              rw [dF c,cF,b8 (by omega) (by omega),bS,aO [] (by omega) (by rw [ho.len];omega),bS,b8 (by omega) (by omega),bS,aO [] (by omega) (by rw [ho.row _ hoe];omega),bS]
              exact ⟨_,rfl,fun _=>rfl⟩
          obtain ⟨said',eh,hh2⟩:=hh
          by_cases k3:x.Kind=3
          · have h7:=d7 k3
            have hoe:(x.Of - 1).toNat < n:=by omega
            rw [eT k3,cT,b8 (by omega) (by omega),bS,aO [] (by omega) (by rw [ho.len];omega),bS,b8 (by omega) (by omega),bS,aO [] (by omega) (by rw [ho.row _ hoe];omega),bS]
            have:=ho.w _ hoe (x.From - 1).toNat (by omega)
            exact ⟨_,rfl,this.1,by omega,said',eh,fun _=>hh2 h7⟩
          · rw [eF k3,cF];exact ⟨_,rfl,fun i hi=>by simp at hi,by simp,said',eh,fun h=>absurd h k3⟩
        obtain ⟨said',eh,hs4⟩:=hs3
        have hm:max 1 (w.S.N+1).toNat=n+1:=by rw [s.N];omega
        rw [es,bS,b8 (by omega) (by omega),bS,aO [] (by omega) (by rw [k1.len];omega),bS,hfe,k1.row _ hf,bU (by omega),bS,Nat.sub_zero,hm,bU (by omega),bS,Nat.add_sub_cancel,rB (k:=0)]
        obtain ⟨all',e1',e2',q1⟩:=ux (b:=fun k3 (st:(List (List (List Nat))))=>dp w x said (x.From - 1) k3 st) (c:=fun k3 (st:(List (List (List Nat))))=>fM w l4 x (k3+1) st) (rem:=n) (k:=0) (s:=all)
          (fun _ a=>Sq w.S.P n L a) k1 (fun j a _ hj q1=>by
            have hjn:j < n:=by omega
            have ej:((j+1:Nat):Int)=((j:Nat):Int)+1:=by omega
            unfold dp fM
            rw [bk (by omega) (by omega),bS,ej]
            have:∃ b,(bif (((j:Nat):Int)+1) != x.From then bif x.To == (0:Int) then some true else some (x.To == (((j:Nat):Int)+1)) else some false)=some b:=by
              by_cases g1:((j:Nat):Int)+1=x.From
              · rw [qF g1,cF];exact ⟨_,rfl⟩
              · rw [qT g1,cT]
                by_cases g2:x.To=0
                · rw [eT g2,cT];exact ⟨_,rfl⟩
                · rw [eF g2,cF];exact ⟨_,rfl⟩
            obtain ⟨b,eb⟩:=this
            rw [eb,bS,bS]
            cases b with
            | false=>rw [cF,cF];exact ⟨_,rfl,rfl,q1⟩
            | true =>
              obtain ⟨hw1,hw2⟩:=q1.w _ hf j hjn
              obtain ⟨r,er,r1,r2⟩:=uA s hx hw1 (by omega) hs1 hs2
              have er':=(Al s hx hw1 (by omega) hs1 hs2 hs4).trans er
              have ej2:((j:Nat):Int)+1 - 1=(j:Int):=by omega
              have x1:eD a (x.From - 1)=some (a.getD (x.From.toNat - 1) []):=by rw [aO [] (by omega) (by rw [q1.len];omega),hfe]
              have x2:=q1.s2 hf hjn
              have x3:eD (a.getD (x.From.toNat - 1) []) ((j:Nat):Int)=some ((a.getD (x.From.toNat - 1) []).getD j []):=by rw [aO [] (by omega) (by rw [q1.row _ hf];omega),Int.toNat_natCast]
              have y1:gM x.From 1=some (x.From - 1):=b8 (by omega) (by omega)
              have y2:gM (((j:Nat):Int)+1) 1=some ((j:Nat):Int):=by rw [b8 (by omega) (by omega),ej2]
              simp only [cT,x1,x2,x3,y1,y2,bS,er,eh,er',hfe,Int.toNat_natCast]
              exact ⟨_,rfl,rfl,q1.setW hf hjn ⟨r1,by omega⟩⟩)
        rw [e1',bS,e2',bS]
        exact ⟨_,rfl,rfl,q1⟩
      · have c1:(bif x.Round == round then ci w.ah x.From >>= fun r1=>some r1 else some false)=some false:=by
          by_cases g1:x.Round=round
          · rw [eT g1,cT,gx,bS,dF (fun h=>g ⟨g1,h⟩)]
          · rw [eF g1,cF]
        have c2:(bif x.Round != round then some true else fc w x.From >>= fun r3=>some (!r3))=some true:=by
          by_cases g1:x.Round=round
          · rw [qF g1,cF,tf,bS,dF (fun h=>g ⟨g1,h⟩),nF]
          · rw [qT g1,cT]
        rw [c1,bS,nF,cT,c2,bS,cT]
        exact ⟨_,rfl,rfl,k1⟩)
  rw [e,bS,e',bS]
  exact ⟨_,rfl,rfl⟩
theorem xz {zw:ab} {zr:Int} {zv:List (List af)} {zt:List be} {zt':List aA} {j k:Int} {l:List Nat} {v:List (List af)} (h:f9 ⟨zw,zr,zv,zt⟩ j k l=some v):fQ ⟨zw,zr,zv,zt'⟩ j k l=some v:=by
  unfold f9 at h
  unfold fQ
  by_cases g:j=k
  · rw [qF g,cF,bS,cF] at h
    rw [qF g.symm,cF,bS,cF];exact h
  · rw [qT g,cT] at h
    rw [qT (fun e=>g e.symm),cT]
    by_cases g2:((l.length:Nat):Int) > 0
    · rw [dT g2,bS,cT] at h
      rw [dT g2,bS,cT]
      refine kA (fun a h=>h) (fun x2 h=>?_) h
      refine kA (fun a h=>h) (fun x3 h=>?_) h
      have ha:∀ {b:Nat} {β:Type} {f:List Nat→Option β} {r:β},(cX b ([]:List Nat) l >>= f)=some r→f l=some r:=fun {b β f r} h=>by
        unfold cX at h
        split at h
        · rw [bS,List.nil_append] at h;exact h
        · rw [bN] at h;cases h
      exact ha h
    · rw [dF g2,bS,cF] at h
      rw [dF g2,bS,cF];exact h
/-- a round -/
theorem yK {net:aB} {m:ay} {n t L:Nat} (s:Sc net.zw n t) (hz:m.zw=net.zw) (hr:m.ai=net.ai) (hv:m.ap=net.ap) {out:List (List (List Nat))} (ho:Sq net.zw.S.P n L out) (hL:L≤1000) {res:(List (List (List Nat))) × Int × (List (List af))} (es:fZ net out=some res):eL m out=some res:=by
  have h13:=s.n13
  obtain ⟨all,ea,ea'⟩:=AB (round:=net.ai) s ho hL
  obtain ⟨zw,zr,zv,zt⟩:=net
  obtain ⟨zw',zr',zv',zt'⟩:=m
  replace hz:zw'=zw:=hz
  replace hr:zr'=zr:=hr
  replace hv:zv'=zv:=hv
  subst hz;subst hr;subst hv
  have hmx:max 0 zw'.S.N.toNat=n:=by have:zw'.S.N=n:=s.N;rw [this];simp
  have eN:zw'.S.N=(n:Int):=s.N
  unfold fZ at es
  unfold eL
  simp only at es ea ea' ⊢
  rw [ea,bS,eN,b0 (by omega) (by omega) (by omega) (by omega),bS,Int.toNat_natCast,List.length_replicate,Nat.sub_zero] at es
  rw [ea',bS,hmx,eN,b0 (by omega) (by omega) (by omega) (by omega),bS,Int.toNat_natCast,bU (by omega),bS,Nat.sub_zero]
  refine kA (fun a h=>?_) (fun a h=>h) es
  refine wH (fun j st st' h=>?_) h
  unfold fC at h
  unfold gr
  simp only at h ⊢
  rw [hmx,bU (by omega),bS] at h
  rw [hmx]
  refine kA (fun a h=>?_) (fun a h=>h) h
  refine wH (fun i st st' h=>?_) h
  unfold fD at h
  unfold gt
  refine kA (fun a h=>h) (fun x3 h=>?_) h
  refine kA (fun a h=>h) (fun x4 h=>?_) h
  refine kA (fun a h=>h) (fun l10 h=>?_) h
  refine kA (fun a h=>h) (fun x5 h=>?_) h
  refine kA (fun a h=>h) (fun l11 h=>?_) h
  refine kA (fun a h=>h) (fun l12 h=>?_) h
  exact kA (fun a h=>xz h) (fun r4 h=>h) h
/-- the deviations of a broadcast -/
theorem yn {w:ab} {n t L:Nat} (s:Sc w n t) {out:List (List Nat)} {round:Int} (ho:Bl w.S.P n L out) (hL:L≤1000) :
    ∃ all,aU w round out=some all∧dV w round out=some all:=by
  have h13:=s.n13
  unfold aU dV
  rw [od (by rw [ho.len];omega),bS,Nat.sub_zero,aY (by rw [ho.len];simp only [List.length_nil];omega) (by rw [ho.len];simp only [List.length_nil];omega),bS,List.nil_append]
  obtain ⟨all,e,e',_⟩:=ux (b:=fun k1 (st:(List (List Nat)))=>dc w round out k1 st) (c:=fun k1 (st:(List (List Nat)))=>fi w round out k1 st) (rem:=w.aa.length) (k:=0) (s:=out)
    (fun _ all=>Bl w.S.P n L all) ho (fun k all _ hk k1=>by
      have hkd:k < w.aa.length:=by omega
      unfold dc fi
      rw [ix default hkd,bS,bS]
      have hx:w.aa.getD k default ∈ w.aa:=by
        rw [List.getD_eq_getElem?_getD,List.getElem?_eq_getElem hkd];exact List.getElem_mem hkd
      generalize w.aa.getD k default=x at hx
      obtain ⟨d1,d2,d3,d4,d5,d6,d7,d8⟩:=s.dv x hx
      unfold gZ
      by_cases g:x.Round=round∧x.From ∈ w.ah
      · rw [eT g.1,cT,gx,bS,bS,dT g.2,nT,cF,cT,tf,bS,bS,dT g.2,cT]
        have hf:x.From.toNat - 1 < n:=by omega
        have hfe:(x.From - 1).toNat=x.From.toNat - 1:=by omega
        obtain ⟨said,es,hs1,hs2,said',es',hs3⟩:∃ said,(bif x.Kind == (3:Int) then
            gM x.Of (1:Int) >>= fun x3=>eD out x3 >>= fun x4=>some x4
          else some ([]:List Nat))=some said∧Lt w.S.P said∧said.length≤1000∧∃ said',(bif decide (x.Of ≥ (1:Int)) then
            gM x.Of (1:Int) >>= fun x4=>eD out x4 >>= fun x5=>some x5
          else some ([]:List Nat))=some said'∧(x.Kind=3→said'=said):=by
          have hh:∃ said',(bif decide (x.Of ≥ (1:Int)) then
            gM x.Of (1:Int) >>= fun x4=>eD out x4 >>= fun x5=>some x5
          else some ([]:List Nat))=some said'∧(1≤x.Of→said'=out.getD (x.Of - 1).toNat []):=by
            by_cases c:x.Of ≥ 1
            · rw [dT c,cT,b8 (by omega) (by omega),bS,aO [] (by omega) (by rw [ho.len];omega),bS]
              exact ⟨_,rfl,fun _=>rfl⟩
            · rw [dF c,cF];exact ⟨_,rfl,fun h=>by omega⟩
          obtain ⟨said',eh,hh2⟩:=hh
          by_cases k3:x.Kind=3
          · have h7:=d7 k3
            have hoe:(x.Of - 1).toNat < n:=by omega
            have ek:(bif x.Kind == (3:Int) then gM x.Of (1:Int) >>= fun x3=>eD out x3 >>= fun x4=>some x4 else some ([]:List Nat))=some (out.getD (x.Of - 1).toNat []):=by
              rw [eT k3,cT,b8 (by omega) (by omega),bS,aO [] (by omega) (by rw [ho.len];omega),bS]
            have:=ho.w _ hoe
            exact ⟨_,ek,this.1,by omega,said',eh,fun _=>hh2 h7⟩
          · rw [eF k3,cF];exact ⟨_,rfl,fun i hi=>by simp at hi,by simp,said',eh,fun h=>absurd h k3⟩
        obtain ⟨hw1,hw2⟩:=k1.w _ hf
        obtain ⟨r,er,r1,r2⟩:=uA s hx hw1 (by omega) hs1 hs2
        have er':=(Al s hx hw1 (by omega) hs1 hs2 hs3).trans er
        rw [es,es',bS,bS,b8 (by omega) (by omega),bS,bS,aO [] (by omega) (by rw [k1.len];omega),bS,bS,hfe,er,er',bS,bS]
        refine ⟨_,rfl,rfl,⟨by rw [List.length_set];exact k1.len,fun i hi=>?_⟩⟩
        rw [bb (by rw [k1.len];exact hf)]
        split
        · exact ⟨r1,by omega⟩
        · exact k1.w i hi
      · have c1:(bif x.Round == round then ci w.ah x.From >>= fun r1=>some r1 else some false)=some false:=by
          by_cases g1:x.Round=round
          · rw [eT g1,cT,gx,bS,dF (fun h=>g ⟨g1,h⟩)]
          · rw [eF g1,cF]
        have c2:(bif x.Round == round then fc w x.From >>= fun r2=>some r2 else some false)=some false:=by
          by_cases g1:x.Round=round
          · rw [eT g1,cT,tf,bS,dF (fun h=>g ⟨g1,h⟩)]
          · rw [eF g1,cF]
        rw [c1,bS,nF,cT,c2,bS,cF]
        exact ⟨_,rfl,rfl,k1⟩)
  rw [e,bS,e',bS]
  exact ⟨_,rfl,rfl⟩
/-- the reference's rounds -/
theorem z6 {m:ay} {n t L B:Nat} (s:Sc m.zw n t) {out:List (List (List Nat))} (ho:Sq m.zw.S.P n L out) (hL:L≤1000) (hv:m.ap.length=n) (hb:∀ j,j < n→(m.ap.getD j []).length≤B) (hB:B≤500) (hr:0≤m.ai∧m.ai≤1000) :
    ∃ all inn views,eL m out=some (inn,m.ai+1,views)∧bl m.zw m.ai out=some all∧Sq m.zw.S.P n L all ∧
      inn.length=n∧(∀ j,j < n→(inn.getD j []).length=n∧∀ i,i < n→(inn.getD j []).getD i []=(all.getD i []).getD j [])∧views.length=n∧(∀ j,j < n→views.getD j []=m.ap.getD j []++xt m.ai all j n)∧∀ j,j < n→(views.getD j []).length≤B+n:=by
  obtain ⟨all,inn,views,ea,es,⟨q1,_⟩,_,i1,i2,v1,v2⟩:=wJ (net:=⟨m.zw,m.ai,m.ap,[]⟩) s ho hL hv (fun j hj=>Nat.le_trans (hb j hj) hB) hr
  refine ⟨all,inn,views,yK (net:=⟨m.zw,m.ai,m.ap,[]⟩) s rfl rfl rfl ho hL es,ea,q1,i1,i2,v1,v2,fun j hj=>?_⟩
  rw [v2 j hj,List.length_append]
  have:=hb j hj
  have:=sN (round:=m.ai) (all:=all) (j:=j) (k:=n)
  simp only
  omega
theorem CY {zw:ab} {zr:Int} {zv:List (List af)} {zt:List be} {zt':List aA} {n t L:Nat} (s:Sc zw n t) {out all:List (List Nat)} (ho:Bl zw.S.P n L out) (hL:L≤1000) {views:List (List af)}
    (e:bW ⟨zw,zr,zv,zt⟩ out=some (all,zr+1,views)) (ea:aU zw zr out=some all) (ha:Bl zw.S.P n L all):bY ⟨zw,zr,zv,zt'⟩ out=some (all,zr+1,views):=by
  have h13:=s.n13
  have hmx:max 0 zw.S.N.toNat=n:=by rw [s.N];simp
  obtain ⟨all',ea',eb⟩:=yn (round:=zr) s ho hL
  rw [ea] at ea'
  obtain rfl:=Option.some.inj ea'
  unfold bW at e
  unfold bY
  simp only at e ⊢
  rw [ea,bS,s.N,b0 (by omega) (by omega) (by omega) (by omega),bS,Int.toNat_natCast,List.length_replicate,Nat.sub_zero] at e
  rw [eb,bS,hmx,bU (by omega),bS,Nat.sub_zero]
  obtain ⟨⟨v0,i0⟩,e1,h1⟩:=Ib e
  have e2:∃ r,cW (fun k1 (st:(List (List af)) × (List (List Nat)))=>cu ⟨zw,zr,zv,zt'⟩ all k1 st.1 st.2) n 0 (zv,([]:List (List Nat)))=some r∧r.1=v0∧r.2=all:=by
    have key:∀ rem k (st:(List (List af)) × (List (List Nat))) (l:List (List Nat)),k+rem=n→l=all.take k→st.2.length=n→cW (fun k1 (st:(List (List af)) × (List (List Nat)))=>cK ⟨zw,zr,zv,zt⟩ all k1 st.1 st.2) rem k st=some (v0,i0) →
        ∃ r,cW (fun k1 (st:(List (List af)) × (List (List Nat)))=>cu ⟨zw,zr,zv,zt'⟩ all k1 st.1 st.2) rem k (st.1,l)=some r∧r.1=v0∧r.2=all:=by
      intro rem
      induction rem with
      | zero =>
        intro k st l hk hl _ h
        rw [cW] at h
        have:=Option.some.inj h
        refine ⟨_,rfl,by rw [this],?_⟩
        show l=all
        rw [hl,List.take_of_length_le (by rw [ha.len];omega)]
      | succ rem ih =>
        intro k st l hk hl hs h
        simp only [cW] at h ⊢
        cases eb:cK ⟨zw,zr,zv,zt⟩ all k st.1 st.2 with
        | none=>rw [eb] at h;cases h
        | some st' =>
          rw [eb] at h
          have hkn:k < n:=by omega
          have hw:=ha.w k hkn
          have hll:l.length=k:=by rw [hl,List.length_take,ha.len];omega
          unfold cK at eb
          rw [ix [] (by rw [ha.len];exact hkn),bS,aY (by simp only [List.length_nil];omega) (by simp only [List.length_nil];omega),bS,List.nil_append,ix [] (by omega),bS,bS,List.length_set,hs,Nat.sub_zero] at eb
          obtain ⟨v',e3,h3⟩:=Ib eb
          have h3:=Option.some.inj h3
          have e4:cW (fun k2 (st:(List (List af)))=>dh ⟨zw,zr,zv,zt'⟩ k (all.getD k []) k2 st) n 0 st.1=some v':=by
            have key2:∀ rem j a,j+rem=n→cW (fun k2 (q:(List (List af)))=>du ⟨zw,zr,zv,zt⟩ k (st.2.set k (all.getD k [])) k2 q) rem j a=some v'→cW (fun k2 (st:(List (List af)))=>dh ⟨zw,zr,zv,zt'⟩ k (all.getD k []) k2 st) rem j a=some v':=by
              intro rem
              induction rem with
              | zero=>intro j a _ h;exact h
              | succ rem ih2 =>
                intro j a hj h
                simp only [cW] at h ⊢
                cases eq:du ⟨zw,zr,zv,zt⟩ k (st.2.set k (all.getD k [])) j a with
                | none=>rw [eq] at h;cases h
                | some a' =>
                  rw [eq] at h
                  have:dh ⟨zw,zr,zv,zt'⟩ k (all.getD k []) j a=some a':=by
                    unfold du at eq
                    unfold dh
                    rw [ix [] (by rw [List.length_set];omega),bS,bb (by omega),if_pos rfl] at eq
                    exact kA (fun a h=>xz h) (fun r h=>h) eq
                  rw [this]
                  exact ih2 (j+1) a' (by omega) h
            exact key2 n 0 st.1 (by omega) e3
          have e5:cu ⟨zw,zr,zv,zt'⟩ all k st.1 l=some (v',l++[all.getD k []]):=by
            unfold cu
            rw [ix [] (by rw [ha.len];exact hkn),bS,aY (by simp only [List.length_nil];omega) (by simp only [List.length_nil];omega),bS,List.nil_append,aY (by simp only [List.length_cons,List.length_nil];omega) (by simp only [List.length_cons,List.length_nil];omega),bS]
            simp only
            rw [hmx,Nat.sub_zero,e4,bS]
          simp only [e5]
          obtain ⟨v1,l1⟩:=st'
          have hv:v'=v1:=by rw [Prod.mk.injEq] at h3;exact h3.1
          subst hv
          refine ih (k+1) (v',l1) _ (by omega) (by rw [hl,List.take_add_one,ix [] (by rw [ha.len];exact hkn)];rfl) ?_ h
          rw [Prod.mk.injEq] at h3
          rw [← h3.2,List.length_set];exact hs
    exact key n 0 (zv,List.replicate n []) [] (by omega) (by simp) (by simp) e1
  obtain ⟨r,e2,e3,e4⟩:=e2
  rw [e2,bS]
  rw [e3,e4]
  refine kA (fun a h=>h) (fun x4 h=>?_) h1
  simp only at h ⊢
  have h:=Option.some.inj h
  rw [Prod.mk.injEq,Prod.mk.injEq] at h
  rw [h.2.1,h.2.2]
theorem sX {m:ay} {n t L B:Nat} (s:Sc m.zw n t) {out:List (List Nat)} (ho:Bl m.zw.S.P n L out) (hL:L≤1000) (hv:m.ap.length=n) (hb:∀ j,j < n→(m.ap.getD j []).length≤B) (hB:B≤500) (hr:0≤m.ai∧m.ai≤1000) :
    ∃ all views,bY m out=some (all,m.ai+1,views)∧aU m.zw m.ai out=some all∧Bl m.zw.S.P n L all ∧
      views.length=n∧(∀ j,j < n→views.getD j []=m.ap.getD j []++vx m.ai all j n)∧∀ j,j < n→(views.getD j []).length≤B+n:=by
  obtain ⟨all,views,e,ea,q1,_,_,v1,v2⟩:=xe (net:=⟨m.zw,m.ai,m.ap,[]⟩) s ho hL hv (fun j hj=>Nat.le_trans (hb j hj) hB) hr
  refine ⟨all,views,CY (zt:=[]) s ho hL e ea q1,ea,q1,v1,v2,fun j hj=>?_⟩
  rw [v2 j hj,List.length_append]
  have:=hb j hj
  have:=uu (round:=m.ai) (all:=all) (j:=j) (k:=n)
  simp only
  omega
end Pu

/- Plain laws of the reference of chapter 18: small loops, matrices, rows. -/
set_option linter.unusedVariables false
namespace Pu
open Gw Gl Sp
/-- a counted loop -/
theorem n3 {S R:Type} {step:S→Option (Out S R)} {n:Nat} (I:Nat→S→Prop) (Q:R→Prop) (hn:n≤1000000) {s:S} (h0:I 0 s) (hgo:∀ k s,k < n→I k s→∃ s',step s=some (.go s')∧I (k+1) s') (hfin:∀ s,I n s→∃ r,step s=some (.fin r)∧Q r):∃ r,qy step big s=some r∧Q r:=by
  have key:∀ f k s,k≤n→n - k < f→I k s→∃ r,qy step f s=some r∧Q r:=by
    intro f
    induction f with
    | zero=>intro k s _ h;omega
    | succ f ih =>
      intro k s hk hf hI
      by_cases g:k=n
      · subst g
        obtain ⟨r,e,hr⟩:=hfin s hI
        exact ⟨r,by rw [qy,e],hr⟩
      · obtain ⟨s',e,hI'⟩:=hgo k s (by omega) hI
        obtain ⟨r,e2,hr⟩:=ih (k+1) s' (by omega) (by omega) hI'
        exact ⟨r,by rw [qy,e];exact e2,hr⟩
  exact key big 0 s (by omega) (by unfold big;omega) h0
/-- a counted loop that makes a list -/
theorem Cp {α:Type} {step:List α × Int→Option (Out (List α × Int) (List α))} {n:Nat} (v:Nat→List α) (hn:n≤1000000) (l0:List α)
    (hgo:∀ k l,k < n→l=l0++((List.range k).map v).flatten→step (l,((k:Nat):Int))=some (.go (l++v k,((k+1:Nat):Int)))) (hfin:∀ l,step (l,((n:Nat):Int))=some (.fin l)):qy step big (l0,((0:Nat):Int))=some (l0++((List.range n).map v).flatten):=by
  obtain ⟨r,e,hr⟩:=n3 (step:=step) (n:=n) (fun k s=>s.2=((k:Nat):Int)∧s.1=l0++((List.range k).map v).flatten) (fun r=>r=l0++((List.range n).map v).flatten) hn (s:=(l0,((0:Nat):Int))) ⟨rfl,by simp⟩ (fun k s hk ⟨h1,h2⟩=>by
      obtain ⟨l,x⟩:=s
      simp only at h1 h2
      subst h1
      refine ⟨_,hgo k l hk h2,rfl,?_⟩
      simp only
      rw [h2,List.range_succ,List.map_append,List.flatten_append,List.append_assoc];simp) (fun s ⟨h1,h2⟩=>by
      obtain ⟨l,x⟩:=s
      simp only at h1 h2
      subst h1
      exact ⟨_,hfin l,h2⟩)
  rw [e,hr]
theorem zN {α:Type} {step:List α × Int→Option (Out (List α × Int) (List α))} {n:Nat} (v:Nat→α) (hn:n≤1000000) (l0:List α)
    (hgo:∀ k l,k < n→l=l0++(List.range k).map v→step (l,((k:Nat):Int))=some (.go (l++[v k],((k+1:Nat):Int)))) (hfin:∀ l,step (l,((n:Nat):Int))=some (.fin l)):qy step big (l0,((0:Nat):Int))=some (l0++(List.range n).map v):=by
  have e:∀ k,((List.range k).map fun k=>[v k]).flatten=(List.range k).map v:=fun k=>by
    induction k with
    | zero=>rfl
    | succ k ih=>rw [List.range_succ,List.map_append,List.flatten_append,ih,List.map_append];rfl
  have:=Cp (step:=step) (n:=n) (fun k=>[v k]) hn l0 (fun k l hk h=>hgo k l hk (by rw [← e];exact h)) hfin
  rw [e] at this;exact this
/-- two lists alike place by place -/
theorem fp {α:Type} {a b:List α} {n:Nat} (d:α) (ha:a.length=n) (hb:b.length=n) (h:∀ i,i < n→a.getD i d=b.getD i d):a=b:=by
  refine List.ext_getElem (by omega) fun i h1 h2=>?_
  have:=h i (by omega)
  rw [List.getD_eq_getElem?_getD,List.getD_eq_getElem?_getD,List.getElem?_eq_getElem h1,List.getElem?_eq_getElem h2] at this
  exact this
/-- 1 or 0 -/
noncomputable def bt (c:Prop):Nat:=@ite _ c (Classical.propDecidable c) 1 0
theorem BF {c:Prop} (h:c):bt c=1:=by unfold bt;rw [if_pos h]
theorem yq {c:Prop} (h:¬ c):bt c=0:=by unfold bt;rw [if_neg h]
theorem iF {c d:Prop} (h:c ↔ d):bt c=bt d:=by rw [propext h]
/-- the first m words -/
def rz (l:List Nat) (m:Nat):List Nat:=(List.range m).map fun c=>l.getD c 0
theorem sB {l:List Nat} {m:Nat}:(rz l m).length=m:=by simp [rz]
theorem sA {l:List Nat} {m c:Nat} (h:c < m):(rz l m).getD c 0=l.getD c 0:=aW h
theorem mV {l:List Nat} {m:Nat} (hm:m≤1000) (hl:l.length≤100000):c9 l ((m:Nat):Int)=some (rz l m):=by
  unfold c9
  rw [b0 (by omega) (by omega) (by omega) (by omega),bS,Int.toNat_natCast]
  obtain ⟨r,e,h1,h2⟩:=n3 (step:=fun (st:(List Nat) × Int)=>dW l ((m:Nat):Int) st.1 st.2) (n:=min m l.length) (fun k s=>s.2=((k:Nat):Int)∧s.1.length=m∧∀ c,c < m→s.1.getD c 0=if c < k then l.getD c 0 else 0) (fun r=>r.length=m∧∀ c,c < m→r.getD c 0=l.getD c 0) (by omega) (s:=(List.replicate m 0,((0:Nat):Int))) ⟨rfl,by simp,fun c hc=>by
      show (List.replicate m 0).getD c 0=_
      rw [List.getD_eq_getElem?_getD,List.getElem?_replicate,if_pos hc];rfl⟩ (fun k s hk ⟨h1,h2,h3⟩=>by
      obtain ⟨q,x⟩:=s
      simp only at h1 h2 h3
      subst h1
      unfold dW
      simp only
      rw [dT (by omega),cT,dT (by omega),bS,cT,aO 0 (by omega) (by omega),bS,aO 0 (by omega) (by omega),bS,bS,bk (by omega) (by omega),bS,Int.toNat_natCast]
      refine ⟨_,rfl,rfl,by show (q.set k _).length=m;rw [List.length_set];exact h2,fun c hc=>?_⟩
      show (q.set k _).getD c 0=_
      rw [bb (by omega)]
      by_cases g:k=c
      · subst g;rw [if_pos rfl,if_pos (by omega)]
      · rw [if_neg g,h3 c hc]
        by_cases g2:c < k
        · rw [if_pos g2,if_pos (by omega)]
        · rw [if_neg g2,if_neg (by omega)]) (fun s ⟨h1,h2,h3⟩=>by
      obtain ⟨q,x⟩:=s
      simp only at h1 h2 h3
      subst h1
      unfold dW
      simp only
      have:(bif decide (((min m l.length:Nat):Int) < ((m:Nat):Int)) then some (decide (((min m l.length:Nat):Int) < ((l.length:Nat):Int))) else some false)=some false:=by
        by_cases g:m≤l.length
        · rw [dF (by omega),cF]
        · rw [dT (by omega),cT,dF (by omega)]
      rw [this,bS,cF]
      refine ⟨_,rfl,h2,fun c hc=>?_⟩
      rw [h3 c hc]
      split
      · rfl
      · exact (wv (by omega)).symm)
  rw [e,bS]
  congr 1
  exact fp 0 h1 sB fun i hi=>by rw [h2 i hi,sA hi]
/-- where the reference's tapes stand -/
structure Gy (n:Nat) (T:List aA) (tp:Nat→List Nat) (ps:Nat→Nat):Prop where
  len:T.length=n
  at_:∀ i,i < n→T.getD i ⟨[],0⟩=⟨tp i,((ps i:Nat):Int)⟩
  le:∀ i,i < n→ps i≤(tp i).length∧(tp i).length≤1000
theorem C4 {l:List Nat} {a m:Nat} (h:a+m≤l.length) (hl:l.length≤1000):gP ⟨l,((a:Nat):Int)⟩ ((m:Nat):Int)=some ((l.drop a).take m,0,((a+m:Nat):Int)):=by
  unfold gP gO
  simp only
  have e:((a:Nat):Int)+((m:Nat):Int)=((a+m:Nat):Int):=by omega
  rw [dF (by omega),cF,b8 (by omega) (by omega),bS,bS,dF (by omega),bS,cF,bk (by omega) (by omega),bS,e,lq (by omega) (by omega) (by omega),bS,aY (by simp only [List.length_nil,List.length_take,List.length_drop];omega) (by simp only [List.length_nil,List.length_take,List.length_drop];omega),bS,List.nil_append]
  simp only [Int.toNat_natCast]
  rw [Nat.add_sub_cancel_left];rfl
theorem C2 {t:Nat} (ht:t=1 ∨ t=2):jU ((t:Nat):Int)=some ((t*(t+1) / 2:Nat):Int):=by
  obtain ⟨e2,e3⟩:=wy ht
  unfold jU
  rw [bk (by omega) (by omega),bS,e2,bS,e3,bS]
/-- one dealer's matrices -/
theorem C1 {p:Nat} {m:ay} {q:List (List (List Nat))} {n t i:Nat} (ht:t=1 ∨ t=2) (hn:n≤13) (hT:m.zw.S.T=(t:Int)) {tp:Nat→List Nat} {ps:Nat→Nat} (Q:Qs p n t q (rem n tp ps)) (hi:i < n) {T0:List aA} {S0:List (List (List (List Nat)))} (h1:T0.length=n) (h2:T0.getD i ⟨[],0⟩=⟨tp i,((ps i:Nat):Int)⟩) (hle:ps i≤(tp i).length∧(tp i).length≤1000) (h3:S0.length=n) (h4:S0.getD i []=[]) :
    ∃ T S,dw m q m.zw i T0 S0=some (T,S)∧T.length=n∧(∀ j,j≠i→T.getD j ⟨[],0⟩=T0.getD j ⟨[],0⟩)∧T.getD i ⟨[],0⟩=⟨tp i,((ps i+(q.getD i []).length*(t*(t+1) / 2):Nat):Int)⟩∧S.length=n∧S.getD i []=Sm q (rem n tp ps) t i∧∀ j,j≠i→S.getD j []=S0.getD j []:=by
  obtain ⟨m1,m2⟩:=Q.many i hi
  obtain ⟨t1,t2⟩:=Q.ts i hi
  have hrg:=sY (tp:=tp) (ps:=ps) hi
  have hSm:(Sm q (rem n tp ps) t i).length=(q.getD i []).length:=by unfold Sm;simp
  unfold dw
  obtain ⟨⟨T,S⟩,e,a1,a2,a3,a4,a5,a6⟩:=n3 (step:=fun (st:(List aA) × (List (List (List (List Nat)))) × Int)=>dx m q m.zw i st.1 st.2.1 st.2.2) (n:=(q.getD i []).length)
    (fun k st=>st.2.2=((k:Nat):Int)∧st.1.length=n∧st.1.getD i ⟨[],0⟩=⟨tp i,((ps i+k*(t*(t+1) / 2):Nat):Int)⟩∧(∀ j,j≠i→st.1.getD j ⟨[],0⟩=T0.getD j ⟨[],0⟩)∧st.2.1.length=n∧st.2.1.getD i []=(Sm q (rem n tp ps) t i).take k∧∀ j,j≠i→st.2.1.getD j []=S0.getD j [])
    (fun r=>r.1.length=n∧(∀ j,j≠i→r.1.getD j ⟨[],0⟩=T0.getD j ⟨[],0⟩)∧r.1.getD i ⟨[],0⟩=⟨tp i,((ps i+(q.getD i []).length*(t*(t+1) / 2):Nat):Int)⟩∧r.2.length=n∧r.2.getD i []=Sm q (rem n tp ps) t i∧∀ j,j≠i→r.2.getD j []=S0.getD j []) (by omega) (s:=(T0,S0,((0:Nat):Int)))
    ⟨rfl,h1,by rw [h2,Nat.zero_mul];rfl,fun _ _=>rfl,h3,by rw [h4];rfl,fun _ _=>rfl⟩ (fun k st hkm ⟨a0,a1,a2,a3,a4,a5,a6⟩=>by
      obtain ⟨T,S,x⟩:=st
      simp only at a0 a1 a2 a3 a4 a5 a6
      subst a0
      obtain ⟨w1,w2⟩:=Q.w i hi k hkm
      have hr:=wI (t:=t) m2 hkm
      have hle2:(k+1)*(t*(t+1) / 2)≤(q.getD i []).length*(t*(t+1) / 2):=Nat.mul_le_mul_right _ hkm
      rw [Nat.add_mul,Nat.one_mul] at hle2
      obtain ⟨_,e1,_,_⟩:=Cu (p:=p) ht w1 hr w2 (yN t2)
      have ei:((i:Nat):Int)+1 - 1=(i:Int):=by omega
      have eT:im ⟨m.zw,m.ai,m.ap,T⟩ (((i:Nat):Int)+1)=some i:=by
        unfold im
        rw [b8 (by omega) (by omega),bS,ei]
        simp only
        rw [aO (⟨[],0⟩:aA) (by omega) (by omega),bS,Int.toNat_natCast]
      have hSl:(S.getD i []).length=k:=by rw [a5,List.length_take];omega
      have hSk:(Sm q (rem n tp ps) t i).getD k []=mx ((q.getD i []).getD k []) (Bh ((rem n tp ps).getD i []) t k):=yj hkm
      have ht2:t≤2:=by omega
      rw [hrg,List.length_drop] at m2
      have et:=C4 (l:=tp i) (a:=ps i+k*(t*(t+1) / 2)) (m:=t*(t+1) / 2) (by omega) (by omega)
      unfold dx
      simp only
      rw [ix [] (by rw [Q.len];exact hi),bS,dT (by omega),cT,bk (by omega) (by omega),bS,eT,bS,hT,C2 ht,bS,ix (⟨[],0⟩:aA) (by omega),bS,a2,et,bS,bS]
      simp only
      have er:((tp i).drop (ps i+k*(t*(t+1) / 2))).take (t*(t+1) / 2)=Bh ((rem n tp ps).getD i []) t k:=by
        unfold Bh;rw [hrg,List.drop_drop]
      rw [er,aO [] (by omega) (by omega),bS,Int.toNat_natCast,e1,bS,ix [] (by omega),bS]
      simp only
      rw [aY (by rw [hSl];simp only [List.length_cons,List.length_nil];omega) (by rw [hSl];simp only [List.length_cons,List.length_nil];omega),bS,bS,bk (by omega) (by omega),bS]
      refine ⟨_,rfl,rfl,by show (T.set i _).length=n;rw [List.length_set];exact a1,?_,fun j hj=>?_,by show (S.set i _).length=n;rw [List.length_set];exact a4,?_,fun j hj=>?_⟩
      · show (T.set i _).getD i _=_
        rw [bb (by omega),if_pos rfl,Nat.add_mul,Nat.one_mul,Nat.add_assoc]
      · show (T.set i _).getD j _=_
        rw [bb (by omega),if_neg (fun e=>hj e.symm)];exact a3 j hj
      · show (S.set i _).getD i _=_
        rw [bb (by omega),if_pos rfl,a5,List.take_add_one,ix [] (by omega),hSk];rfl
      · show (S.set i _).getD j _=_
        rw [bb (by omega),if_neg (fun e=>hj e.symm)];exact a6 j hj) (fun st ⟨a0,a1,a2,a3,a4,a5,a6⟩=>by
      obtain ⟨T,S,x⟩:=st
      simp only at a0 a1 a2 a3 a4 a5 a6
      subst a0
      unfold dx
      simp only
      rw [ix [] (by rw [Q.len];exact hi),bS,dF (by omega),cF]
      exact ⟨_,rfl,a1,a3,a2,a4,by show S.getD i []=_;rw [a5,List.take_of_length_le (by omega)],a6⟩)
  rw [e,bS]
  exact ⟨T,S,rfl,a1,a2,a3,a4,a5,a6⟩
theorem Fy {p:Nat} {m:ay} {q:List (List (List Nat))} {n t:Nat} (ht:t=1 ∨ t=2) (hn:n≤13) (hT:m.zw.S.T=(t:Int)) {tp:Nat→List Nat} {ps:Nat→Nat} (Q:Qs p n t q (rem n tp ps)) (hts:Gy n m.al tp ps) :
    ∃ T,io m q=some ((List.range n).map (Sm q (rem n tp ps) t),m.ap,T)∧Gy n T tp (fun i=>ps i+(q.getD i []).length*(t*(t+1) / 2)):=by
  unfold io bI
  rw [bS,Q.len,b0 (by omega) (by omega) (by omega) (by omega),bS,Int.toNat_natCast,Nat.sub_zero]
  obtain ⟨⟨T,S⟩,e,a1,a2,a8,a3,a4,a5⟩:=bZ (body:=fun k1 (st:(List aA) × (List (List (List (List Nat)))))=>dw m q m.zw k1 st.1 st.2) (rem:=n) (k:=0) (s:=(m.al,List.replicate n []))
    (fun k st=>st.1.length=n∧(∀ j,k≤j→j < n→st.1.getD j ⟨[],0⟩=⟨tp j,((ps j:Nat):Int)⟩)∧(∀ j,j < k→st.1.getD j ⟨[],0⟩=⟨tp j,((ps j+(q.getD j []).length*(t*(t+1) / 2):Nat):Int)⟩)∧st.2.length=n∧(∀ j,j < k→st.2.getD j []=Sm q (rem n tp ps) t j)∧∀ j,k≤j→j < n→st.2.getD j []=[])
    ⟨hts.len,fun j _ hj=>hts.at_ j hj,fun j hj=>by omega,by simp,fun j hj=>by omega,fun j _ hj=>by show (List.replicate n ([]:List (List (List Nat)))).getD j []=[];rw [List.getD_eq_getElem?_getD,List.getElem?_replicate,if_pos hj];rfl⟩ (fun k st _ hk ⟨a1,a2,a8,a3,a4,a5⟩=>by
      obtain ⟨T,S⟩:=st
      simp only at a1 a2 a3 a4 a5 a8
      have hkn:k < n:=by omega
      obtain ⟨T',S',e',b1,b2,b6,b3,b4,b5⟩:=C1 (m:=m) ht hn hT Q hkn a1 (a2 k (Nat.le_refl k) hkn) (hts.le k hkn) a3 (a5 k (Nat.le_refl k) hkn)
      simp only
      rw [e']
      refine ⟨_,rfl,b1,fun j hj hjn=>?_,fun j hj=>?_,b3,fun j hj=>?_,fun j hj hjn=>?_⟩
      · show T'.getD j _=_
        rw [b2 j (by omega)];exact a2 j (by omega) hjn
      · show T'.getD j _=_
        by_cases g:j=k
        · subst g;exact b6
        · rw [b2 j g];exact a8 j (by omega)
      · show S'.getD j _=_
        by_cases g:j=k
        · subst g;exact b4
        · rw [b5 j g];exact a4 j (by omega)
      · show S'.getD j _=_
        rw [b5 j (by omega)];exact a5 j (by omega) hjn)
  rw [Nat.zero_add] at a4 a8
  simp only at a1 a2 a3 a4 a5 a8
  have hS:S=(List.range n).map (Sm q (Pu.rem n tp ps) t):=fp [] a3 (by simp) fun i hi=>by rw [a4 i hi,aW hi]
  rw [e,bS]
  refine ⟨T,by rw [hS],a1,a8,fun i hi=>⟨?_,(hts.le i hi).2⟩⟩
  obtain ⟨_,m2⟩:=Q.many i hi
  rw [sY hi,List.length_drop] at m2
  have:=(hts.le i hi).1
  omega
end Pu

/- Plain laws of the reference of chapter 18: the three rounds. -/
set_option linter.unusedVariables false
namespace Pu
open Gw Gl Sp
theorem pZ {A R:Type} {step:A × Int→Option (Out (A × Int) R)} {n:Nat} (f:Nat→A) {r:R} (hn:n≤1000000) (hgo:∀ k,k < n→step (f k,((k:Nat):Int))=some (.go (f (k+1),((k+1:Nat):Int)))) (hfin:step (f n,((n:Nat):Int))=some (.fin r)):qy step big (f 0,((0:Nat):Int))=some r:=by
  obtain ⟨r',e,h⟩:=n3 (step:=step) (n:=n) (fun k s=>s=(f k,((k:Nat):Int))) (fun x=>x=r) hn rfl (fun k s hk h=>⟨_,by rw [h];exact hgo k hk,rfl⟩) (fun s h=>⟨_,by rw [h];exact hfin,rfl⟩)
  rw [e,h]
theorem oP {S:Type} {body:Nat→S→Option S} (f:Nat→S):∀ {n a:Nat},(∀ k,a≤k→k < a+n→body k (f k)=some (f (k+1)))→cW body n a (f a)=some (f (a+n))
  | 0,_,_=>rfl
  | n+1,a,h=>by
    rw [cW,h a (Nat.le_refl a) (by omega)]
    have:=oP f (n:=n) (a:=a+1) (fun k h1 h2=>h k (by omega) (by omega))
    rw [show a+(n+1)=a+1+n by omega];exact this
/-- a loop that puts a value into each place -/
theorem sZ {α:Type} {body:Nat→List α→Option (List α)} {n:Nat} (d:α) (v:Nat→α) {l0:List α} (h0:l0.length=n)
    (hb:∀ i l,i < n→l.length=n→l.getD i d=l0.getD i d→body i l=some (l.set i (v i))):cW body n 0 l0=some ((List.range n).map v):=by
  obtain ⟨l,e,h1,h2,h3⟩:=bZ (body:=body) (fun k l=>l.length=n∧(∀ j,j < k→l.getD j d=v j)∧∀ j,k≤j→l.getD j d=l0.getD j d) (rem:=n) (k:=0) (s:=l0)
    ⟨h0,fun j hj=>by omega,fun j _=>rfl⟩ (fun k l _ hk ⟨h1,h2,h3⟩=>by
      have hkn:k < n:=by omega
      refine ⟨_,hb k l hkn h1 (h3 k (Nat.le_refl k)),by rw [List.length_set];exact h1,fun j hj=>?_,fun j hj=>?_⟩
      · rw [bb (by omega)]
        by_cases g:k=j
        · rw [if_pos g,g]
        · rw [if_neg g];exact h2 j (by omega)
      · rw [bb (by omega),if_neg (by omega)];exact h3 j (by omega))
  rw [Nat.zero_add] at h2
  rw [e]
  congr 1
  exact fp d h1 (by simp) fun i hi=>by rw [h2 i hi,aW hi]
theorem pH {α:Type} {n i:Nat} {d:α}:(List.replicate n d).getD i d=d:=by
  rw [List.getD_eq_getElem?_getD,List.getElem?_replicate];split <;> rfl
/-- the rows that arrive -/
theorem Bf {p n t:Nat} {w:ab} {S:List (List (List (List Nat)))} (hn:n≤13) (ht:t≤2) (hN:w.S.N=(n:Int)) (hT:w.S.T=(t:Int)) (s:Ss p n t S) {r6:(List (List (List Nat))) × Int × (List (List af))} (h1:r6.1.length=n) (h2:∀ i,i < n→(r6.1.getD i []).length=n) (h3:∀ i,i < n→∀ d,d < n→((r6.1.getD i []).getD d []).length≤1000) :
    cW (fun k4 (st:(List (List (List (List Nat)))))=>km S w r6 k4 st) n 0 (List.replicate n [])=some ((List.range n).map fun j=>(List.range n).map fun d=>got ((r6.1.getD j []).getD d []) (t+1) (S.getD d []).length):=by
  have hmx:max 0 ((n:Nat):Int).toNat=n:=by simp
  refine iZ (fun j=>(List.range n).map fun d=>got ((r6.1.getD j []).getD d []) (t+1) (S.getD d []).length) fun j l hj hl h0=>?_
  unfold km
  rw [hN,hmx,Nat.sub_zero,pK (fun d=>got ((r6.1.getD j []).getD d []) (t+1) (S.getD d []).length) hj hl (fun d l' hd hl' hw=>by
    rw [h0] at hw
    simp only [List.length_nil] at hw
    have hmd:=s.many d hd
    have hlen:=h3 j hj d hd
    have hw2:(S.getD d []).length*(t+1)≤10*3:=Nat.mul_le_mul hmd (by omega)
    have i1:(((S.getD d []).length:Nat):Int)*((t+1:Nat):Int)=(((S.getD d []).length*(t+1):Nat):Int):=by rw [Int.natCast_mul]
    have et:((t:Nat):Int)+1=((t+1:Nat):Int):=by omega
    have e1:cW (fun k6 (st:(List (List Nat)))=>kn ((t+1:Nat):Int) (rz ((r6.1.getD j []).getD d []) ((S.getD d []).length*(t+1))) k6 st) (S.getD d []).length 0 ([]:List (List Nat))=some (got ((r6.1.getD j []).getD d []) (t+1) (S.getD d []).length):=fT (fun k=>(List.range (t+1)).map fun c=>((r6.1.getD j []).getD d []).getD (k*(t+1)+c) 0) (fun k l hk hl=>by
        obtain ⟨c1,c2,c3⟩:=wc (l:=(r6.1.getD j []).getD d []) (k:=k) (r:=rz ((r6.1.getD j []).getD d []) ((S.getD d []).length*(t+1))) sB (fun c hc=>sA hc) hk (by omega) (by omega) (by omega)
        unfold kn
        rw [c1,bS,bk (by omega) (by omega),bS,c2,bS,c3,bS,aY (by simp only [List.length_cons,List.length_nil];omega) (by simp only [List.length_cons,List.length_nil];omega),bS])
    unfold nv
    rw [Nat.zero_add,ix [] (by omega),bS,ix [] (by rw [h2 j hj];exact hd),bS,ix [] (by rw [s.len];exact hd),bS,hT,bk (by omega) (by omega),bS,et,gY (by rw [i1];omega) (by rw [i1];omega),i1,bS,mV (by omega) (by omega),bS,Nat.sub_zero,e1,bS,ix [] (by omega),bS,aY (by simp only [List.length_cons,List.length_nil];omega) (by simp only [List.length_cons,List.length_nil];omega),bS,bS]),bS,h0,List.nil_append]
section
variable {p:Nat} [NeZero p] {n t:Nat}
/-- the rows that the dealers send -/
theorem Bd (hp:iD p) {w:ab} {S:List (List (List (List Nat)))} (hn:n≤13) (ht:t≤2) (hN:w.S.N=(n:Int)) (hP:w.S.P=p) (s:Ss p n t S) :
    cW (fun k1 (st:(List (List (List Nat))))=>gC S w k1 st) n 0 (List.replicate n [])=some ((List.range n).map fun d=>(List.range n).map fun j=>jL p (S.getD d []) (j+1)):=by
  have hlt:=hp.lt
  have hmx:max 0 ((n:Nat):Int).toNat=n:=by simp
  refine iZ (fun d=>(List.range n).map fun j=>jL p (S.getD d []) (j+1)) fun d l hd hl h0=>?_
  have hm:=s.many d hd
  unfold gC
  rw [hN,b0 (by omega) (by omega) (by omega) (by omega),bS,Int.toNat_natCast,ix [] (by omega),bS,bS,Nat.max_eq_right (Nat.zero_le n),Nat.sub_zero]
  have e:=iZ (n:=n) (body:=fun j (r:List (List Nat))=>some (r.set j (jL p (S.getD d []) (j+1)))) (fun j=>jL p (S.getD d []) (j+1)) (fun j r _ _ _=>rfl)
  have e2:cW (fun k2 (st:(List (List (List Nat))))=>dP S w d k2 st) n 0 (l.set d (List.replicate n []))=some (l.set d ((List.range n).map fun j=>jL p (S.getD d []) (j+1))):=by
    have key:∀ j r,j < n→r.length=n→r.getD j []=[]→dP S w d j (l.set d r)=some (l.set d (r.set j (jL p (S.getD d []) (j+1)))):=fun j r hj hr hrj=>by
      have hg:∀ x,(l.set d x).getD d []=x:=fun x=>by rw [bb (by omega),if_pos rfl]
      have hu:mJ (((j+1:Nat)):Int)=j+1:=by unfold mJ;omega
      have ej:((j:Nat):Int)+1=((j+1:Nat):Int):=by omega
      unfold dP
      have:=pZ (step:=fun (st:(List (List (List Nat))) × Int)=>ff S w d j st.1 st.2) (n:=(S.getD d []).length) (fun q=>l.set d (r.set j (((List.range q).map fun k=>Rw p ((S.getD d []).getD k []) (j+1)).flatten))) (r:=l.set d (r.set j (jL p (S.getD d []) (j+1)))) (by omega) (fun q hq=>by
          obtain ⟨_,r1,r2,_,_⟩:=nf hp (s.mat d hd q hq) (by omega) (show j+1 < p by omega)
          have hql:(((List.range q).map fun k=>Rw p ((S.getD d []).getD k []) (j+1)).flatten).length=q*(t+1):=ou (fun k' hk'=>(nf hp (s.mat d hd k' (by omega)) (by omega) (show j+1 < p by omega)).2.2.1)
          have:q*(t+1)≤10*3:=Nat.mul_le_mul (by omega) (by omega)
          unfold ff
          simp only
          rw [ix [] (by rw [s.len];exact hd),bS,dT (by omega),cT,ix [] (by rw [List.length_set];omega),bS,hg,ix [] (by rw [List.length_set];omega),bS,bb (by omega),if_pos rfl,aO [] (by omega) (by omega),bS,Int.toNat_natCast,bk (by omega) (by omega),ej,bS,hu,bS,hP,r1,bS,aY (by omega) (by omega),bS,bS,bS,bk (by omega) (by omega),bS,List.set_set,List.set_set,List.range_succ,List.map_append,List.flatten_append]
          simp only [List.map_cons,List.map_nil,List.flatten_cons,List.flatten_nil,List.append_nil]
          rfl) (by
          unfold ff
          simp only
          rw [ix [] (by rw [s.len];exact hd),bS,dF (by omega),cF];rfl)
      simp only [List.range_zero,List.map_nil,List.flatten_nil] at this
      have h1:r.set j []=r:=by rw [← hrj];exact fj (by omega)
      rw [h1] at this
      rw [this,bS]
    have hI:=bZ (body:=fun k2 (st:(List (List (List Nat))))=>dP S w d k2 st) (fun k st=>∃ r:List (List Nat),st=l.set d r∧r.length=n∧(∀ j,j < k→r.getD j []=jL p (S.getD d []) (j+1))∧∀ j,k≤j→r.getD j []=[]) (rem:=n) (k:=0) (s:=l.set d (List.replicate n []))
      ⟨_,rfl,by simp,fun j hj=>by omega,fun j _=>pH⟩ (fun j st _ hj ⟨r,h1,h2,h3,h4⟩=>by
        subst h1
        refine ⟨_,key j r (by omega) h2 (h4 j (Nat.le_refl j)),_,rfl,by rw [List.length_set];exact h2,fun i hi=>?_,fun i hi=>?_⟩
        · rw [bb (by omega)]
          by_cases g:j=i
          · rw [if_pos g,g]
          · rw [if_neg g];exact h3 i (by omega)
        · rw [bb (by omega),if_neg (by omega)];exact h4 i (by omega))
    obtain ⟨st,e3,r,h1,h2,h3,_⟩:=hI
    rw [Nat.zero_add] at h3
    have:r=(List.range n).map fun j=>jL p (S.getD d []) (j+1):=fp [] h2 (by simp) fun i hi=>by rw [h3 i hi,aW hi]
    rw [e3,h1,this]
  rw [e2,bS]
theorem C3 (hp:iD p) {m:ay} {S:List (List (List (List Nat)))} {B:Nat} (sc:Sc m.zw n t) (ht:t≤2) (hP:m.zw.S.P=p) (s:Ss p n t S) (hv:m.ap.length=n) (hb:∀ j,j < n→(m.ap.getD j []).length≤B) (hB:B≤500) (hr:0≤m.ai∧m.ai≤1000) :
    ∃ A0 views,jV m S=some ((List.range n).map fun j=>(List.range n).map fun d=>got ((A0.getD d []).getD j []) (t+1) (S.getD d []).length,m.ai+1,views,m.al)∧bl m.zw m.ai ((List.range n).map fun d=>(List.range n).map fun j=>jL p (S.getD d []) (j+1))=some A0∧views.length=n∧(∀ j,j < n→views.getD j []=m.ap.getD j []++xt m.ai A0 j n)∧∀ j,j < n→(views.getD j []).length≤B+n:=by
  have hlt:=hp.lt
  have h13:=sc.n13
  have hmx:max 0 ((n:Nat):Int).toNat=n:=by simp
  have hsq:Sq m.zw.S.P n 30 ((List.range n).map fun d=>(List.range n).map fun j=>jL p (S.getD d []) (j+1)):=⟨by simp,fun i hi=>by rw [aW hi];simp,fun i hi j hj=>by
    rw [aW hi,aW hj,hP]
    obtain ⟨c1,c2⟩:=nH hp s ht hi (x:=j+1) (by omega)
    have:(S.getD i []).length*(t+1)≤10*3:=Nat.mul_le_mul (s.many i hi) (by omega)
    exact ⟨c2,by omega⟩⟩
  obtain ⟨A0,inn,views,e1,ea,q1,i1,i2,v1,v2,v3⟩:=z6 sc hsq (by omega) hv hb hB hr
  refine ⟨A0,views,?_,ea,v1,v2,v3⟩
  unfold jV bI
  rw [bS,sc.N,b0 (by omega) (by omega) (by omega) (by omega),bS,Int.toNat_natCast,Nat.max_eq_right (Nat.zero_le n),bU (by omega),bS,Nat.sub_zero,Bd hp h13 ht sc.N hP s,bS,e1,bS,b0 (by omega) (by omega) (by omega) (by omega),bS,Int.toNat_natCast,Bf h13 ht sc.N sc.T s i1 (fun i hi=>(i2 i hi).1) (fun i hi d hd=>by rw [(i2 i hi).2 d hd];have:=(q1.w d hd i hi).2;omega),bS]
  congr 2
  refine List.map_congr_left fun j hj=>List.map_congr_left fun d hd=>?_
  rw [(i2 j (by simpa using hj)).2 d (by simpa using hd)]
theorem z9 (hp:iD p) {f:List Nat} {x:Nat} (hf:Lt p f) (hl:f.length≤10) (hx:x < p):e7 p f x=some (kD p f x):=by
  obtain ⟨y,e,h1,h2⟩:=ua hp hf hl hx
  obtain ⟨_,h3,h4⟩:=kg hp hf hx (by omega)
  rw [e,tY h1 h3 (by rw [h2,h4,wd (n:=f.length) _ (by rw [wZ];exact Nat.le_refl _)];exact fv fun j _=>by rw [Bz])]
variable {mm:Nat→Nat}
theorem u7 (hp:iD p) {R:List (List (List (List Nat)))} (hn:n≤13) (ht:t≤2) (r:Rr p n t mm R) {i x:Nat} (hi:i < n) (hx:x < p):gL p (R.getD i []) x=some (iu p n mm (R.getD i []) x):=by
  unfold gL
  rw [r.row i hi,Nat.sub_zero,pJ (fun d=>(List.range (mm d)).map fun k=>kD p (((R.getD i []).getD d []).getD k []) x) (fun d l hd hl=>by
    have hll:l.length≤10*d:=by rw [hl];exact qf (p:=p) (Ri:=R.getD i []) (x:=x) (fun d' hd'=>r.m2 d' (by omega))
    have hm:=r.m2 d hd
    unfold lP
    rw [zN (n:=mm d) (fun k=>kD p (((R.getD i []).getD d []).getD k []) x) (by omega) l (fun k l' hk hl'=>by
      obtain ⟨w1,w2⟩:=r.w i hi d hd k hk
      have hl2:l'.length≤1000:=by rw [hl',List.length_append,List.length_map,List.length_range];omega
      unfold ft
      simp only
      rw [ix [] (by rw [r.row i hi];exact hd),bS,r.many i hi d hd,dT (by omega),cT,aO [] (by omega) (by rw [r.many i hi d hd];omega),bS,Int.toNat_natCast,z9 hp w2 (by omega) hx,bS,aY (by simp only [List.length_cons,List.length_nil];omega) (by simp only [List.length_cons,List.length_nil];omega),bS,bk (by omega) (by omega),bS]
      rfl) (fun l'=>by
      unfold ft
      simp only
      rw [ix [] (by rw [r.row i hi];exact hd),bS,r.many i hi d hd,dF (by omega),cF]),bS]),bS]
  rfl
theorem Bc (hp:iD p) {m:ay} {R:List (List (List (List Nat)))} {B:Nat} (sc:Sc m.zw n t) (ht:t≤2) (hP:m.zw.S.P=p) (r:Rr p n t mm R) (hv:m.ap.length=n) (hb:∀ j,j < n→(m.ap.getD j []).length≤B) (hB:B≤500) (hr:0≤m.ai∧m.ai≤1000) :
    ∃ A1 views,jt m R=some ((List.range n).map fun i=>(List.range n).map fun j=>rz ((A1.getD j []).getD i []) (iu p n mm (R.getD 0 []) 1).length,m.ai+1,views)∧bl m.zw m.ai ((List.range n).map fun i=>(List.range n).map fun j=>iu p n mm (R.getD i []) (j+1))=some A1∧views.length=n∧(∀ j,j < n→views.getD j []=m.ap.getD j []++xt m.ai A1 j n)∧∀ j,j < n→(views.getD j []).length≤B+n:=by
  have hlt:=hp.lt
  have h13:=sc.n13
  have h4:=sc.n4
  have hmx:max 0 ((n:Nat):Int).toNat=n:=by simp
  have hvl:=fun i x=>qf (n:=n) (p:=p) (Ri:=R.getD i []) (x:=x) r.m2
  have hsq:Sq m.zw.S.P n 130 ((List.range n).map fun i=>(List.range n).map fun j=>iu p n mm (R.getD i []) (j+1)):=⟨by simp,fun i hi=>by rw [aW hi];simp,fun i hi j hj=>by
    rw [aW hi,aW hj,hP]
    have:=hvl i (j+1)
    exact ⟨Dl hp r ht hi (by omega),by omega⟩⟩
  obtain ⟨A1,inn,views,e1,ea,q1,i1,i2,v1,v2,v3⟩:=z6 sc hsq (by omega) hv hb hB hr
  refine ⟨A1,views,?_,ea,v1,v2,v3⟩
  unfold jt bI
  rw [bS,sc.N,b0 (by omega) (by omega) (by omega) (by omega),bS,Int.toNat_natCast,Nat.max_eq_right (Nat.zero_le n),bU (by omega),bS,Nat.sub_zero,iZ (fun i=>(List.range n).map fun j=>iu p n mm (R.getD i []) (j+1)) (fun i l hi hl h0=>by
    unfold mF
    rw [sc.N,hmx,Nat.sub_zero,pK (fun j=>iu p n mm (R.getD i []) (j+1)) hi hl (fun j l' hj hl' hw=>by
      rw [h0] at hw
      simp only [List.length_nil] at hw
      have ej:((j:Nat):Int)+1=((j+1:Nat):Int):=by omega
      have hu:mJ (((j+1:Nat)):Int)=j+1:=by unfold mJ;omega
      unfold mG
      rw [Nat.zero_add,ix [] (by omega),bS,ix [] (by rw [r.len];exact hi),bS,bk (by omega) (by omega),ej,bS,hu,bS,hP,u7 hp h13 ht r hi (by omega),bS,aY (by simp only [List.length_cons,List.length_nil];omega) (by simp only [List.length_cons,List.length_nil];omega),bS,bS]),bS,h0,List.nil_append]),bS,e1,bS]
  simp only
  rw [sZ ([]:List (List Nat)) (fun i=>(List.range n).map fun j=>rz ((A1.getD j []).getD i []) (iu p n mm (R.getD 0 []) 1).length) i1 (fun i l hi hl h0=>by
    unfold mH
    rw [sc.N,hmx,Nat.sub_zero]
    have e2:cW (fun k4 (r:(List (List Nat)))=>some (r.set k4 (rz ((A1.getD k4 []).getD i []) (iu p n mm (R.getD 0 []) 1).length))) n 0 (inn.getD i [])=some ((List.range n).map fun j=>rz ((A1.getD j []).getD i []) (iu p n mm (R.getD 0 []) 1).length):=sZ [] _ (i2 i hi).1 (fun j l' _ _ _=>rfl)
    have e3:cW (fun k4 (st:(List (List (List Nat))))=>ip ((List.range n).map fun i=>(List.range n).map fun j=>iu p n mm (R.getD i []) (j+1)) i k4 st) n 0 l=some (l.set i ((List.range n).map fun j=>rz ((A1.getD j []).getD i []) (iu p n mm (R.getD 0 []) 1).length)):=by
      obtain ⟨st,e4,r',g1,g2,g3,g4⟩:=bZ (body:=fun k4 (st:(List (List (List Nat))))=>ip ((List.range n).map fun i=>(List.range n).map fun j=>iu p n mm (R.getD i []) (j+1)) i k4 st) (fun k st=>∃ r':List (List Nat),st=l.set i r'∧r'.length=n∧(∀ j,j < k→r'.getD j []=rz ((A1.getD j []).getD i []) (iu p n mm (R.getD 0 []) 1).length)∧∀ j,k≤j→r'.getD j []=(inn.getD i []).getD j []) (rem:=n) (k:=0) (s:=l)
        ⟨inn.getD i [],by rw [← h0];exact (fj (by omega)).symm,(i2 i hi).1,fun j hj=>by omega,fun _ _=>rfl⟩ (fun j st _ hj ⟨r',g1,g2,g3,g4⟩=>by
          subst g1
          have hjn:j < n:=by omega
          have hw:=(q1.w j hjn i hi).2
          have hv0:=hvl 0 1
          unfold ip
          rw [ix [] (by rw [List.length_set];omega),bS,bb (by omega),if_pos rfl,ix [] (by omega),bS,ix [] (by simp;omega),bS,aW (show 0 < n by omega),ix [] (by simp;omega),bS,aW (show 0 < n by omega),Nat.zero_add,g4 j (Nat.le_refl j),(i2 i hi).2 j hjn,mV (by omega) (by omega),bS,bS,bS,List.set_set]
          refine ⟨_,rfl,_,rfl,by rw [List.length_set];exact g2,fun c hc=>?_,fun c hc=>?_⟩
          · rw [bb (by omega)]
            by_cases g:j=c
            · rw [if_pos g,g]
            · rw [if_neg g];exact g3 c (by omega)
          · rw [bb (by omega),if_neg (by omega)];exact g4 c (by omega))
      rw [Nat.zero_add] at g3
      have:r'=(List.range n).map fun j=>rz ((A1.getD j []).getD i []) (iu p n mm (R.getD 0 []) 1).length:=fp [] g2 (by simp) fun j hj=>by rw [g3 j hj,aW hj]
      rw [e4,g1,this]
    rw [e3,bS]),bS]
end
end Pu

/- Plain laws of the reference of chapter 18: complaints, and the whole first half. -/
set_option linter.unusedVariables false
namespace Pu
open Gw Gl Sp
section
variable {p:Nat} [NeZero p] {n t:Nat} {mm:Nat→Nat}
theorem A8 (hp:iD p) {w:ab} {R:List (List (List (List Nat)))} {i:Nat} (hn:n≤7) (ht:t≤2) (hN:w.S.N=(n:Int)) (hP:w.S.P=p) (r:Rr p n t mm R) (hi:i < n) {heard:List (List Nat)} (hh:heard.length=n) (hl:∀ j,j < n→(iu p n mm (R.getD i []) (j+1)).length≤(heard.getD j []).length) :
    ∃ F,ie w (R.getD i []) ((i:Nat):Int) heard=some F∧F.length=n*n ∧
      ∀ j,j < n→∀ d,d < n→F.getD (d*n+j) 0=bt (j≠i∧∃ q,q < mm d∧(iu p n mm (R.getD i []) (j+1)).getD ((iu p d mm (R.getD i []) (j+1)).length+q) 0≠(heard.getD j []).getD ((iu p d mm (R.getD i []) (j+1)).length+q) 0):=by
  have hlt:=hp.lt
  have hmx:max 0 ((n:Nat):Int).toNat=n:=by simp
  have i1:((n:Nat):Int)*((n:Nat):Int)=((n*n:Nat):Int):=by rw [Int.natCast_mul]
  have hnn:n*n≤7*7:=Nat.mul_le_mul hn hn
  generalize hV:(fun j:Nat=>iu p n mm (R.getD i []) (j+1))=V
  have hVj:∀ j,iu p n mm (R.getD i []) (j+1)=V j:=fun j=>by rw [← hV]
  generalize hO:(fun (d j:Nat)=>(iu p d mm (R.getD i []) (j+1)).length)=off
  have hOd:∀ d j,(iu p d mm (R.getD i []) (j+1)).length=off d j:=fun d j=>by rw [← hO]
  have hO0:∀ j,off 0 j=0:=fun j=>by rw [← hOd];simp [iu]
  have hOs:∀ d j,off (d+1) j=off d j+mm d:=fun d j=>by rw [← hOd,← hOd,kT]
  have hOV:∀ d j,d < n→off d j+mm d≤(V j).length:=fun d j hd=>by
    rw [← hOs,← hOd,← hVj];exact oy hd
  have hVl:∀ j,(V j).length≤10*n:=fun j=>by rw [← hVj];exact qf r.m2
  simp only [hVj,hOd] at hl ⊢
  generalize hW:(fun (j d q:Nat)=>(V j).getD (off d j+q) 0≠(heard.getD j []).getD (off d j+q) 0)=v
  have hv:∀ j d q,v j d q ↔ (V j).getD (off d j+q) 0≠(heard.getD j []).getD (off d j+q) 0:=fun j d q=>by rw [← hW]
  unfold ie
  rw [hN,gY (by rw [i1];omega) (by rw [i1];omega),i1,bS,b0 (by omega) (by omega) (by omega) (by omega),bS,← hN,hN,hmx,bU (by omega),bS,Nat.sub_zero,Int.toNat_natCast]
  obtain ⟨F,e,h1,h2⟩:=bZ (body:=fun k1 (st:(List Nat))=>jK w (R.getD i []) ((i:Nat):Int) heard k1 st) (rem:=n) (k:=0) (s:=List.replicate (n*n) 0)
    (fun k l=>l.length=n*n∧∀ j,j < n→∀ d,d < n→l.getD (d*n+j) 0=bt (j < k∧j≠i∧∃ q,q < mm d∧v j d q)) ⟨by simp,fun j hj d hd=>by rw [yq (by omega)];exact pH⟩ (fun k l _ hk ⟨h1,h2⟩=>by
      have hkn:k < n:=by omega
      have ek:((k:Nat):Int)+1=((k+1:Nat):Int):=by omega
      have hu:mJ (((k+1:Nat)):Int)=k+1:=by unfold mJ;omega
      have hlk:=hl k hkn
      have hVk:=hVl k
      unfold jK
      rw [bk (by omega) (by omega),ek,bS,hu,bS,hP,u7 hp (by omega) ht r hi (by omega),bS,hVj,hN,hmx,Nat.sub_zero]
      obtain ⟨⟨l',a'⟩,e',g1,g2,g3⟩:=bZ (body:=fun k2 (st:(List Nat) × Int)=>fR w (R.getD i []) ((i:Nat):Int) heard k (V k) k2 st.1 st.2) (rem:=n) (k:=0) (s:=(l,((0:Nat):Int)))
        (fun d st=>st.1.length=n*n∧st.2=((off d k:Nat):Int)∧∀ j,j < n→∀ d',d' < n→st.1.getD (d'*n+j) 0=bt ((j < k ∨ (j=k∧d' < d))∧j≠i∧∃ q,q < mm d'∧v j d' q)) ⟨h1,by rw [hO0],fun j hj d' hd'=>by
          show l.getD _ 0=_
          rw [h2 j hj d' hd']
          exact iF ⟨fun ⟨a,b⟩=>⟨.inl a,b⟩,fun ⟨a,b⟩=>⟨by omega,b⟩⟩⟩ (fun d st _ hd ⟨g1,g2,g3⟩=>by
          obtain ⟨l0,a0⟩:=st
          simp only at g1 g2 g3
          subst g2
          have hdn:d < n:=by omega
          have hoff:=hOV d k hdn
          unfold fR
          obtain ⟨⟨l2,a2⟩,e2,f1,f2,f3⟩:=n3 (step:=fun (st:(List Nat) × Int × Int)=>eM w (R.getD i []) ((i:Nat):Int) heard k (V k) d st.1 st.2.1 st.2.2) (n:=mm d)
            (fun q st=>st.2.2=((q:Nat):Int)∧st.1.length=n*n∧st.2.1=((off d k+q:Nat):Int)∧∀ j,j < n→∀ d',d' < n→st.1.getD (d'*n+j) 0=bt (((j < k ∨ (j=k∧d' < d))∧j≠i∧∃ q,q < mm d'∧v j d' q) ∨ (j=k∧d'=d∧j≠i∧∃ q',q' < q∧v j d' q')))
            (fun r=>r.1.length=n*n∧r.2=((off (d+1) k:Nat):Int)∧∀ j,j < n→∀ d',d' < n→r.1.getD (d'*n+j) 0=bt ((j < k ∨ (j=k∧d' < d+1))∧j≠i∧∃ q,q < mm d'∧v j d' q)) (by have:=r.m2 d hdn;omega) (s:=(l0,((off d k:Nat):Int),((0:Nat):Int)))
            ⟨rfl,g1,rfl,fun j hj d' hd'=>by
              show l0.getD _ 0=_
              rw [g3 j hj d' hd']
              exact iF ⟨fun h=>.inl h,fun h=>by
                rcases h with h | ⟨_,_,_,q',hq',_⟩
                · exact h
                · omega⟩⟩ (fun q st hq ⟨f0,f1,f2,f3⟩=>by
              obtain ⟨l1,a1,x⟩:=st
              simp only at f0 f1 f2 f3
              subst f0;subst f2
              have hrow:=r.row i hi
              have hmd:=r.many i hi d hdn
              have hvq:=hv k d q
              unfold eM
              simp only
              have hsame:¬ (k≠i∧v k d q)→∀ j,j < n→∀ d',d' < n→l1.getD (d'*n+j) 0=bt (((j < k ∨ (j=k∧d' < d))∧j≠i∧∃ q,q < mm d'∧v j d' q) ∨ (j=k∧d'=d∧j≠i∧∃ q',q' < q+1∧v j d' q')):=fun hno j hj d' hd'=>by
                rw [f3 j hj d' hd']
                refine iF ⟨fun h=>?_,fun h=>?_⟩
                · rcases h with h | ⟨a,b,c,q',hq',hv'⟩
                  · exact .inl h
                  · exact .inr ⟨a,b,c,q',by omega,hv'⟩
                · rcases h with h | ⟨a,b,c,q',hq',hv'⟩
                  · exact .inl h
                  · refine .inr ⟨a,b,c,q',?_,hv'⟩
                    by_cases gg:q'=q
                    · subst gg;subst a;subst b;exact absurd ⟨c,hv'⟩ hno
                    · omega
              have hcond:(bif ((k:Nat):Int) != ((i:Nat):Int) then eD (V k) (((off d k+q:Nat)):Int) >>= fun x14=>heard[k]? >>= fun x15=>eD x15 (((off d k+q:Nat)):Int) >>= fun x16=>some (((x14:Nat):Int) != ((x16:Nat):Int)) else some false)=some (decide (k≠i∧(V k).getD (off d k+q) 0≠(heard.getD k []).getD (off d k+q) 0)):=by
                by_cases g:k=i
                · rw [qF (by rw [g]),cF,decide_eq_false (by simp [g])]
                · rw [qT (by omega),cT,aO 0 (by omega) (by omega),bS,ix [] (by omega),bS,aO 0 (by omega) (by omega),bS,Int.toNat_natCast]
                  by_cases g2:(V k).getD (off d k+q) 0=(heard.getD k []).getD (off d k+q) 0
                  · rw [qF (by rw [g2]),decide_eq_false (by simp only [ne_eq,g2,not_true_eq_false,and_false,not_false_eq_true])]
                  · rw [qT (by omega),decide_eq_true ⟨g,g2⟩]
              rw [ix [] (by omega),bS,hmd,dT (by omega),cT,hcond,bS]
              by_cases gc:k≠i∧(V k).getD (off d k+q) 0≠(heard.getD k []).getD (off d k+q) 0
              · have i2:((d:Nat):Int)*((n:Nat):Int)=((d*n:Nat):Int):=by rw [Int.natCast_mul]
                have hdd:(d+1)*n≤n*n:=Nat.mul_le_mul_right _ hdn
                rw [Nat.add_mul,Nat.one_mul] at hdd
                have i3:((d*n:Nat):Int)+((k:Nat):Int)=((d*n+k:Nat):Int):=by omega
                rw [decide_eq_true gc,cT,hN,gY (by rw [i2];omega) (by rw [i2];omega),bS,i2,bk (by omega) (by omega),bS,i3,aO 0 (by omega) (by omega),bS,bS,bk (by omega) (by omega),bS,bk (by omega) (by omega),bS]
                refine ⟨_,rfl,rfl,by show (l1.set _ _).length=_;rw [List.length_set];exact f1,rfl,fun j hj d' hd'=>?_⟩
                show (l1.set ((d*n+k:Nat):Int).toNat 1).getD (d'*n+j) 0=_
                rw [Int.toNat_natCast,bb (by omega)]
                by_cases gg:d*n+k=d'*n+j
                · obtain ⟨rfl,rfl⟩:=zK gg hkn hj
                  rw [if_pos rfl,BF (.inr ⟨rfl,rfl,gc.1,q,by omega,hvq.2 gc.2⟩)]
                · rw [if_neg gg,f3 j hj d' hd']
                  refine iF ⟨fun h=>?_,fun h=>?_⟩
                  · rcases h with h | ⟨a,b,_⟩
                    · exact .inl h
                    · subst a;subst b;exact absurd rfl gg
                  · rcases h with h | ⟨a,b,_⟩
                    · exact .inl h
                    · subst a;subst b;exact absurd rfl gg
              · rw [decide_eq_false gc,cF,bk (by omega) (by omega),bS,bk (by omega) (by omega),bS]
                exact ⟨_,rfl,rfl,f1,rfl,hsame fun ⟨a,b⟩=>gc ⟨a,hvq.1 b⟩⟩) (fun st ⟨f0,f1,f2,f3⟩=>by
              obtain ⟨l1,a1,x⟩:=st
              simp only at f0 f1 f2 f3
              subst f0;subst f2
              unfold eM
              simp only
              rw [ix [] (by rw [r.row i hi];omega),bS,r.many i hi d hdn,dF (by omega),cF]
              refine ⟨_,rfl,f1,by rw [hOs],fun j hj d' hd'=>?_⟩
              show l1.getD _ 0=_
              rw [f3 j hj d' hd']
              refine iF ⟨fun h=>?_,fun ⟨a,b,c⟩=>?_⟩
              · rcases h with ⟨a,b⟩ | ⟨a,b,c,d⟩
                · exact ⟨by omega,b⟩
                · subst b;exact ⟨.inr ⟨a,by omega⟩,c,d⟩
              · by_cases g:j=k∧d'=d
                · refine .inr ⟨g.1,g.2,b,?_⟩
                  rw [g.2] at c ⊢;exact c
                · exact .inl ⟨by omega,b,c⟩)
          rw [e2,bS]
          exact ⟨_,rfl,f1,f2,f3⟩)
      rw [Nat.zero_add] at g3
      simp only at g1 g2 g3
      rw [e',bS]
      refine ⟨_,rfl,g1,fun j hj d hd=>?_⟩
      rw [g3 j hj d hd]
      exact iF ⟨fun ⟨a,b⟩=>⟨by omega,b⟩,fun ⟨a,b⟩=>⟨by omega,b⟩⟩)
  rw [Nat.zero_add] at h2
  rw [e,bS]
  refine ⟨F,rfl,h1,fun j hj d hd=>?_⟩
  rw [h2 j hj d hd]
  refine iF ⟨fun ⟨_,b,q,hq,h⟩=>⟨b,q,hq,(hv j d q).1 h⟩,fun ⟨b,q,hq,h⟩=>⟨hj,b,q,hq,(hv j d q).2 h⟩⟩
end
theorem Cf {n:Nat} {a b:List Nat} (ha:a.length=n*n) (hb:b.length=n*n) (h:∀ j,j < n→∀ d,d < n→a.getD (d*n+j) 0=b.getD (d*n+j) 0):a=b:=fp 0 ha hb fun i hi=>by
  have hn:0 < n:=by
    rcases Nat.eq_zero_or_pos n with e | e
    · subst e;omega
    · exact e
  have h1:=h (i % n) (Nat.mod_lt _ hn) (i / n) (Nat.div_lt_of_lt_mul hi)
  have h2:i / n*n+i % n=i:=by rw [Nat.mul_comm];exact Nat.div_add_mod i n
  rw [h2] at h1;exact h1
/-- the first half, as the program has it -/
theorem A5 {m:ay} [NeZero m.zw.S.P] {n t B:Nat} (s:Sc m.zw n t) (ht:t=1 ∨ t=2) (hn:n≤7) {q:List (List (List Nat))} {tp:Nat→List Nat} {ps:Nat→Nat} (Q:Qs m.zw.S.P n t q (rem n tp ps)) (hts:Gy n m.al tp ps) (hv:VB n B m.ap) (hB:B≤400) (hr:0≤m.ai∧m.ai≤900)
    {S R:List (List (List (List Nat)))} {F:List (List (List Nat))} {v3:List (List af)} {A0 A1 o0:List (List (List Nat))} {h2:List (List Nat)} {fl:Nat→List Nat} (hS:Ss m.zw.S.P n t S) (hSm:∀ d,d < n→S.getD d []=Sm q (rem n tp ps) t d) (hR:Rr m.zw.S.P n t (fun d=>(q.getD d []).length) R) (hl:v3.length=n)
    (T1:J8 m.zw n t m.ai (fun d=>(q.getD d []).length) S R F m.ap v3 A0 A1 o0 h2 fl) :
    ∃ T,fe m q=some (⟨S,R,F⟩,m.ai+1+1+1,v3,T)∧Gy n T tp (fun i=>ps i+(q.getD i []).length*(t*(t+1) / 2)):=by
  obtain ⟨zw,zr,zv,zt⟩:=m
  simp only at *
  have hp:=s.sup
  have hlt:=hp.lt
  have h13:=s.n13
  have h4:=s.n4
  have ht2:t≤2:=by omega
  have hmx:max 0 ((n:Nat):Int).toNat=n:=by simp
  have hnn:n*n≤7*7:=Nat.mul_le_mul hn hn
  obtain ⟨T,e1,hT⟩:=Fy (m:=⟨zw,zr,zv,zt⟩) ht h13 s.T Q hts
  simp only at e1
  have hSe:(List.range n).map (Sm q (rem n tp ps) t)=S:=fp [] (by simp) hS.len fun i hi=>by rw [aW hi,hSm i hi]
  rw [hSe] at e1
  obtain ⟨A0',v1,e2,ea0,w1,w2,w3⟩:=C3 (p:=zw.S.P) (m:=⟨zw,zr,zv,T⟩) hp s ht2 rfl hS hv.1 hv.2 (by omega) (by show 0≤zr∧zr≤1000;omega)
  simp only at e2 ea0 w2
  have ho0:(List.range n).map (fun d=>(List.range n).map fun j=>jL zw.S.P (S.getD d []) (j+1))=o0:=fp [] (by simp) T1.q0.len fun i hi=>by
    rw [aW hi]
    exact fp [] (by simp) (T1.q0.row i hi) fun j hj=>by rw [aW hj,T1.eo0 i hi j hj]
  rw [ho0,T1.a0] at ea0
  obtain rfl:=Option.some.inj ea0
  have hRe:(List.range n).map (fun j=>(List.range n).map fun d=>got ((A0.getD d []).getD j []) (t+1) (S.getD d []).length)=R:=fp [] (by simp) hR.len fun i hi=>by
    rw [aW hi,T1.r i hi]
    exact List.map_congr_left fun d hd=>by rw [hSm d (by simpa using hd),oV]
  rw [hRe] at e2
  obtain ⟨A1',v2,e3,ea1,x1,x2,x3⟩:=Bc (p:=zw.S.P) (m:=⟨zw,zr+1,v1,T⟩) hp s ht2 rfl hR w1 w3 (by omega) (by show 0≤zr+1∧zr+1≤1000;omega)
  simp only at e3 ea1 x2
  rw [T1.a1] at ea1
  obtain rfl:=Option.some.inj ea1
  have hV:∀ i,i < n→∀ j,(iu zw.S.P n (fun d=>(q.getD d []).length) (R.getD i []) (j+1)).length=(iu zw.S.P n (fun d=>(q.getD d []).length) (R.getD 0 []) 1).length:=fun i hi j=>Aq
  have hfl:∀ i,i < n→ie zw (R.getD i []) ((i:Nat):Int) ((List.range n).map fun j=>rz ((A1.getD j []).getD i []) (iu zw.S.P n (fun d=>(q.getD d []).length) (R.getD 0 []) 1).length)=some (fl i):=fun i hi=>by
    obtain ⟨F',e,f1,f2⟩:=A8 (w:=zw) (i:=i) hp hn ht2 s.N rfl hR hi (heard:=(List.range n).map fun j=>rz ((A1.getD j []).getD i []) (iu zw.S.P n (fun d=>(q.getD d []).length) (R.getD 0 []) 1).length) (by simp) (fun j hj=>by rw [aW hj,sB,hV i hi j];exact Nat.le_refl _)
    obtain ⟨g1,g2,g3⟩:=T1.efl i hi
    rw [e]
    congr 1
    refine Cf f1 g1 fun j hj d hd=>?_
    rw [f2 j hj d hd]
    have hiff:=g3 j hj d hd
    have h2f:=g2 (d*n+j) (by
      have:(d+1)*n≤n*n:=Nat.mul_le_mul_right _ hd
      rw [Nat.add_mul,Nat.one_mul] at this;omega)
    have hc:(j≠i∧∃ k,k < (q.getD d []).length∧(iu zw.S.P n (fun d=>(q.getD d []).length) (R.getD i []) (j+1)).getD ((iu zw.S.P d (fun d=>(q.getD d []).length) (R.getD i []) (j+1)).length+k) 0≠(((List.range n).map fun j=>rz ((A1.getD j []).getD i []) (iu zw.S.P n (fun d=>(q.getD d []).length) (R.getD 0 []) 1).length).getD j []).getD ((iu zw.S.P d (fun d=>(q.getD d []).length) (R.getD i []) (j+1)).length+k) 0) ↔
        (j≠i∧∃ k,k < (q.getD d []).length∧((A1.getD j []).getD i []).getD ((iu zw.S.P d (fun d=>(q.getD d []).length) (R.getD i []) (j+1)).length+k) 0≠kD zw.S.P (((R.getD i []).getD d []).getD k []) (j+1)):=by
      have hk:∀ k,k < (q.getD d []).length→((iu zw.S.P n (fun d=>(q.getD d []).length) (R.getD i []) (j+1)).getD ((iu zw.S.P d (fun d=>(q.getD d []).length) (R.getD i []) (j+1)).length+k) 0=kD zw.S.P (((R.getD i []).getD d []).getD k []) (j+1))∧(((List.range n).map fun j=>rz ((A1.getD j []).getD i []) (iu zw.S.P n (fun d=>(q.getD d []).length) (R.getD 0 []) 1).length).getD j []).getD ((iu zw.S.P d (fun d=>(q.getD d []).length) (R.getD i []) (j+1)).length+k) 0=((A1.getD j []).getD i []).getD ((iu zw.S.P d (fun d=>(q.getD d []).length) (R.getD i []) (j+1)).length+k) 0:=fun k hk=>by
        refine ⟨s5 (m:=fun d=>(q.getD d []).length) hd hk,?_⟩
        have h1:=oy (p:=zw.S.P) (m:=fun d=>(q.getD d []).length) (Ri:=R.getD i []) (x:=j+1) (show d+1≤n by omega)
        rw [kT] at h1
        rw [aW hj,sA (by rw [← hV i hi j];omega)]
      refine ⟨fun ⟨a,k,b,c⟩=>⟨a,k,b,fun h=>c ?_⟩,fun ⟨a,k,b,c⟩=>⟨a,k,b,fun h=>c ?_⟩⟩
      · rw [(hk k b).1,(hk k b).2,h]
      · rw [← (hk k b).1,← (hk k b).2,h]
    rw [iF hc]
    by_cases g:(fl i).getD (d*n+j) 0=0
    · rw [yq (fun h=>hiff.2 h g),g]
    · rw [BF (hiff.1 g)];omega
  have hbl:Bl zw.S.P n 49 ((List.range n).map fl):=⟨by simp,fun i hi=>by
    rw [aW hi]
    exact ⟨y8 (T1.efl i hi).2.1 (by omega),by rw [(T1.efl i hi).1];omega⟩⟩
  obtain ⟨h2',v3',e4,ea2,y1,y2,y3,y4⟩:=sX (m:=⟨zw,zr+1+1,v2,T⟩) s hbl (by omega) x1 x3 (by omega) (by show 0≤zr+1+1∧zr+1+1≤1000;omega)
  simp only at e4 ea2 y3
  rw [T1.a2] at ea2
  obtain rfl:=Option.some.inj ea2
  have hv3:v3'=v3:=fp [] y2 hl fun j hj=>by rw [T1.v j hj,y3 j hj,x2 j hj,w2 j hj]
  subst hv3
  refine ⟨T,?_,hT⟩
  unfold fe bI
  rw [bS,e1,bS]
  simp only
  rw [e2,bS]
  simp only
  rw [e3,bS,s.N,hmx,bU (by omega),bS,Nat.sub_zero,fT fl (fun i l hi hl=>by
    unfold kh
    rw [ix [] (by rw [hR.len];exact hi),bS,ix [] (by simp;exact hi),bS,aW hi,hfl i hi,bS,aY (by simp only [List.length_cons,List.length_nil];omega) (by simp only [List.length_cons,List.length_nil];omega),bS]),bS,e4,bS]
  simp only
  rw [fT (fun i=>got (h2.getD i []) n n) (fun i l hi hl=>by
    have i1:((n:Nat):Int)*((n:Nat):Int)=((n*n:Nat):Int):=by rw [Int.natCast_mul]
    unfold ki
    simp only
    rw [ix [] (by rw [y1.len];exact hi),bS,s.N,gY (by rw [i1];omega) (by rw [i1];omega),i1,bS,mV (by omega) (by have:=(y1.w i hi).2;omega),bS,hmx,Nat.sub_zero,fT (fun k=>(List.range n).map fun c=>(h2.getD i []).getD (k*n+c) 0) (fun k l hk hl=>by
      obtain ⟨c1,c2,c3⟩:=wc (l:=h2.getD i []) (k:=k) (w:=n) (m:=n) (r:=rz (h2.getD i []) (n*n)) sB (fun c hc=>sA hc) hk (by omega) (by omega) (by omega)
      unfold kj
      rw [s.N,c1,bS,bk (by omega) (by omega),bS,c2,bS,c3,bS,aY (by simp only [List.length_cons,List.length_nil];omega) (by simp only [List.length_cons,List.length_nil];omega),bS]),bS,aY (by simp only [List.length_cons,List.length_nil];omega) (by simp only [List.length_cons,List.length_nil];omega),bS]
    rfl),bS,T1.f]
end Pu
