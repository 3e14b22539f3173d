/- Plain laws of chapter 22: what Generate returns. -/
import Derived.Test.YtpjenmchinpgaaaGreatDoorRt
set_option linter.unusedVariables false
namespace Pu
open Gw Gl Sp
theorem Jx {t:Nat} {f r:List Nat} (ht:t=1 ∨ t=2) (hf:f.length=t+1) (hr:r.length=t*(t+1) / 2):(mx f r).getD 0 []=f:=by
  rcases ht with rfl | rfl
  · match f,hf with
    | [a,b],_=>match r,hr with
      | [c],_=>unfold mx;rw [GH];rfl
  · match f,hf with
    | [a,b,c],_=>match r,hr with
      | [d,e,g],_=>unfold mx;rw [GI];rfl
theorem BR.congr {n:Nat} {T:List aH} {tp:Nat→List Nat} {ps ps':Nat→Nat} (h:BR n T tp ps) (e:∀ i,i < n→ps i=ps' i):BR n T tp ps' :=
  ⟨h.len,fun i hi=>by rw [h.at_ i hi,e i hi],fun i hi=>by rw [← e i hi];exact h.le i hi⟩
/-- the first word of a row is the first row's value -/
theorem P6 {p t:Nat} [NeZero p] (hp:fX p) (ht:t≤2) {M:List (List Nat)} (hM:qW p (t+1) (t+1) M) (hs:∀ i,i < t+1→∀ j,j < t+1→(M.getD i []).getD j 0=(M.getD j []).getD i 0) {b:Nat} (hb:b+1 < p):o p ((Rw p M (b+1)).getD 0 0)=cc (P p (M.getD 0 [])) (o p (b+1)):=by
  rw [(pA hp hM (by omega) hb).2.2.2.2 0 (by omega),o8 (n:=t+1) (by rw [hM.row 0 (by omega)];exact Nat.le_refl _)]
  exact bY fun k hk=>by rw [hs k hk 0 (by omega)]
section
variable {w:ae} [NeZero w.S.P] {n t:Nat}
theorem ya (s:Sc w n t):BP w n t (List.replicate n (List.replicate (t+1) 0)) 0:=by
  have hp:=s.sup
  have hg:∀ i,i < n→(List.replicate n (List.replicate (t+1) 0)).getD i []=List.replicate (t+1) 0:=fun i hi=>by
    rw [List.getD_eq_getElem?_getD,List.getElem?_replicate,if_pos hi];rfl
  refine ⟨by simp,fun i hi=>?_,fun i hi _ j hj _=>?_,fun y=>⟨[],by simp,fun i hi _=>?_,fun _=>rfl⟩⟩
  · rw [hg i hi]
    exact ⟨by simp,fun j hj=>by rw [Pv];exact hp.pos⟩
  · rw [hg i hi,hg j hj,rM,rM]
  · rw [hg i hi,rM];rfl
/-- where the check holds for the honest parties, the third number is the product -/
theorem JG (s:Sc w n t) {R:Nat→List (List Nat)} {z:Nat→Fin w.S.P} (A:∀ j,j < t+3→BP w n t (R j) (z j)) (h:∀ i,i < n→(((i:Nat):Int)+1) ∉ w.af→hv w.S.P t i (Aj t fun j=>(R j).getD i [])=true):z (2+t)=z 0*z 1:=by
  have hx:∀ j,∃ g:List (Fin w.S.P),j < t+3→g.length≤t+1∧(∀ i,i < n→Hn w i→o w.S.P (((R j).getD i []).getD 0 0)=cc g (o w.S.P (i+1)))∧cc g 0=z j:=fun j=>by
    by_cases hj:j < t+3
    · obtain ⟨g,g1,g2,g3⟩:=(A j hj).sp 0
      exact ⟨g,fun _=>⟨g1,fun i hi hh=>by rw [← g2 i hi hh,xE],g3 rfl⟩⟩
    · exact ⟨[],fun h=>absurd h hj⟩
  have hG:=fun j=>Classical.choose_spec (hx j)
  generalize hg:(fun j=>Classical.choose (hx j))=g at *
  have hG:∀ j,j < t+3→(g j).length≤t+1∧(∀ i,i < n→Hn w i→o w.S.P (((R j).getD i []).getD 0 0)=cc (g j) (o w.S.P (i+1)))∧cc (g j) 0=z j:=fun j=>by rw [← hg];exact hG j
  have hB:∀ y,cc (nN (wT (fun _=>(1:Fin w.S.P)) (fun j=>List.replicate (j+1) 0++g (2+j)) t) (g (2+t))) y=sm t (fun j=>y ^ (j+1)*cc (g (2+j)) y)+cc (g (2+t)) y:=fun y=>by
    rw [tr,vk]
    refine congrArg (·+_) (bY fun j hj=>?_)
    rw [uL,List.length_replicate]
    have:cc (List.replicate (j+1) (0:Fin w.S.P)) y=0:=rW (fun i=>by
      unfold cf
      rw [List.getD_eq_getElem?_getD,List.getElem?_replicate]
      split <;> rfl) y
    rw [this];grind
  have hlen:(nN (wT (fun _=>(1:Fin w.S.P)) (fun j=>List.replicate (j+1) 0++g (2+j)) t) (g (2+t))).length≤2*t+1:=by
    rw [tE]
    have h1:(wT (fun _=>(1:Fin w.S.P)) (fun j=>List.replicate (j+1) 0++g (2+j)) t).length≤2*t+1:=xM fun k hk=>by
      rw [List.length_append,List.length_replicate]
      have:=(hG (2+k) (by omega)).1;omega
    have h2:=(hG (2+t) (by omega)).1
    omega
  have g0:=hG 0 (by omega)
  have g1:=hG 1 (by omega)
  have hmul:(mB (g 0) (g 1)).length≤2*t+1:=by
    by_cases h1:1≤(g 1).length
    · have:=ru (g 0) (g 1) h1;omega
    · have:=Bo (g 0) (g 1)
      have:=g0.1;have:=s.t1;omega
  have hcf:=xf s (f:=mB (g 0) (g 1)) (g:=nN (wT (fun _=>(1:Fin w.S.P)) (fun j=>List.replicate (j+1) 0++g (2+j)) t) (g (2+t))) hmul hlen (fun i hi hc=>by
    have h1:=h i hi hc
    rw [zV,decide_eq_true_iff] at h1
    rw [pO,hB,← g0.2.1 i hi (.inl hc),← g1.2.1 i hi (.inl hc),← (hG (2+t) (by omega)).2.1 i hi (.inl hc),← h1,bY fun j hj=>by rw [← (hG (2+j) (by omega)).2.1 i hi (.inl hc)]]
    grind)
  have h0:=kU hcf 0
  rw [pO,hB,g0.2.2,g1.2.2,(hG (2+t) (by omega)).2.2,sr fun j hj=>by show (0:Fin w.S.P) ^ (j+1)*_=0;grind] at h0
  rw [h0];grind
end
/-- a triple as it is given back -/
def EF (res:aS) (out:Nat→Bool) (n t d k:Nat):bm :=
  if out d then ⟨List.replicate n (List.replicate (t+1) 0),List.replicate n (List.replicate (t+1) 0),List.replicate n (List.replicate (t+1) 0)⟩ else ⟨shr res n d (k*(t+3)),shr res n d (k*(t+3)+1),shr res n d (k*(t+3)+(t+2))⟩
def G6 (res:aS) (out:Nat→Bool) (n t m:Nat):List (List bm):=(List.range n).map fun d=>(List.range m).map (EF res out n t d)
theorem CG {net:ai} {S:aD} {n t:Nat} {res:aS} (hN:S.N=(n:Int)) (hT:S.T=(t:Int)) (hn:n≤100) (ht:t≤100):iv ⟨net,S,res⟩=some (List.replicate n (List.replicate (t+1) 0)):=by
  have e1:((t:Nat):Int)+1=((t+1:Nat):Int):=by omega
  have e2:max 0 ((n:Nat):Int).toNat=n:=by omega
  unfold iv
  simp only
  rw [hN,e2,bT (by omega),bS,Nat.sub_zero,gk (fun _=>List.replicate (t+1) 0) (fun k l hk hl=>by
    unfold lG
    simp only
    rw [hT,bk (by omega) (by omega),bS,e1,ck (by omega) (by omega) (by omega) (by omega),bS,Int.toNat_natCast,aM (by simp only [List.length_cons,List.length_nil];omega) (by simp only [List.length_cons,List.length_nil];omega),bS]),bS]
  congr 1
  rw [List.map_const',List.length_range]
theorem J0 {net:ai} {r1:ae} {n t m:Nat} {res:aS} {x1:Int} {x2:List (List al)} {x3:List aH} {y1:Int} {y2:List (List al)} {out:List Bool} {p:Nat} (F:Fm p n t (m*(t+3)) res) (hN:r1.S.N=(n:Int)) (hT:r1.S.T=(t:Int)) (hn:n≤7) (ht:t≤2) (hm:m≤2) (ho:out.length=n) :
    cV (fun k2 (st:(List (List bm)))=>lY net ((m:Nat):Int) r1 (res,x1,x2,x3) (out,y1,y2) k2 st) n 1 []=some (G6 res (fun d=>out.getD d false) n t m):=by
  have hm10:m*(t+3)≤10:=Nat.le_trans (Nat.mul_le_mul hm (show t+3≤5 by omega)) (by omega)
  have e1:max 0 ((m:Nat):Int).toNat=m:=by omega
  have e2:((t+3:Nat):Int) - 1=((t+2:Nat):Int):=by omega
  unfold G6
  refine BB (fun d=>(List.range m).map (EF res (fun d=>out.getD d false) n t d)) fun d l hd hl=>?_
  unfold lY
  have e3:((d+1:Nat):Int) - 1=((d:Nat):Int):=by omega
  rw [e1,bT (by omega),bS,Nat.sub_zero,gk (EF res (fun d=>out.getD d false) n t d) (fun k l hk hl=>by
    have z0:((0:Nat):Int)=((0:Nat):Int):=rfl
    unfold p8
    simp only
    rw [rC F hT (by omega) hm10 hd hk (show 0 < t+3 by omega),bS,rC F hT (by omega) hm10 hd hk (show 1 < t+3 by omega),bS,Cn hT ht,bS,cD (by omega) (by omega),bS,e2,rC F hT (by omega) hm10 hd hk (show t+2 < t+3 by omega),bS,cD (by omega) (by omega),bS,e3,aX false (by omega) (by omega),bS,Int.toNat_natCast]
    cases hb:out.getD d false
    · rw [cF,aM (by simp only [List.length_cons,List.length_nil];omega) (by simp only [List.length_cons,List.length_nil];omega),bS]
      have e:EF res (fun d=>out.getD d false) n t d k=⟨shr res n d (k*(t+3)),shr res n d (k*(t+3)+1),shr res n d (k*(t+3)+(t+2))⟩:=by
        unfold EF
        exact if_neg (by show ¬ out.getD d false=true;rw [hb];decide)
      rw [e,Nat.add_zero]
    · rw [cT,CG hN hT (by omega) (by omega),bS,aM (by simp only [List.length_cons,List.length_nil];omega) (by simp only [List.length_cons,List.length_nil];omega),bS]
      have e:EF res (fun d=>out.getD d false) n t d k=⟨List.replicate n (List.replicate (t+1) 0),List.replicate n (List.replicate (t+1) 0),List.replicate n (List.replicate (t+1) 0)⟩:=by
        unfold EF
        exact if_pos hb
      rw [e]),bS,aM (by simp only [List.length_cons,List.length_nil];omega) (by simp only [List.length_cons,List.length_nil];omega),bS]
/-- Generate -/
theorem FC {net:ai} {n t m B:Nat} [NeZero net.zw.S.P] (s:Sc net.zw n t) (ht:t=1 ∨ t=2) (hn:n≤7) (hm:0 < m) (hm2:m≤2) {tp:Nat→List Nat} {ps:Nat→Nat} (hts:BR n net.ak tp ps) (h:∀ d,d < n→ps d+m*(hH t+(t+3)*(t*(t+1) / 2))≤(tp d).length) (hlt:∀ d,d < n→Lt net.zw.S.P (tp d)) (hV:VB n B net.au) (P5:B≤300) (hr:0≤net.ah∧net.ah≤700) :
    ∃ L out round views T,gK net ((m:Nat):Int)=some (L,out,round,views,T)∧L.length=n∧out.length=n∧(∀ d,d < n→(L.getD d []).length=m) ∧
      (∀ d,d < n→∀ k,k < m→∃ a b,BP net.zw n t ((L.getD d []).getD k ⟨[],[],[]⟩).A a∧BP net.zw n t ((L.getD d []).getD k ⟨[],[],[]⟩).B b∧BP net.zw n t ((L.getD d []).getD k ⟨[],[],[]⟩).C (a*b)∧(out.getD d false=true→a=0∧b=0)∧(Hn net.zw d→a=o net.zw.S.P ((hA (tp d) (ps d) t k).getD 0 0)∧b=o net.zw.S.P ((hB (tp d) (ps d) t k).getD 0 0))) ∧
      (∀ d,d < n→Hn net.zw d→out.getD d false=false) ∧
      (∀ d,d < n→Hn net.zw d→∀ k,k < m→∀ i,i < n→Hn net.zw i→(((L.getD d []).getD k ⟨[],[],[]⟩).A).getD i []=Rw net.zw.S.P (mx (hA (tp d) (ps d) t k) (Ay ((tp d).drop (ps d+m*hH t)) t (k*(t+3)))) (i+1) ∧
        (((L.getD d []).getD k ⟨[],[],[]⟩).B).getD i []=Rw net.zw.S.P (mx (hB (tp d) (ps d) t k) (Ay ((tp d).drop (ps d+m*hH t)) t (k*(t+3)+1))) (i+1) ∧
        (((L.getD d []).getD k ⟨[],[],[]⟩).C).getD i []=Rw net.zw.S.P (mx (hC net.zw.S.P (tp d) (ps d) t k) (Ay ((tp d).drop (ps d+m*hH t)) t (k*(t+3)+(t+2)))) (i+1)) ∧
      BR n T tp (fun i=>ps i+m*(hH t+(t+3)*(t*(t+1) / 2)))∧(round=net.ah+8 ∨ round=net.ah+9)∧(net.zw.aa=[]→round=net.ah+8):=by
  obtain ⟨w,round,v0,T0⟩:=net
  simp only at *
  have hp:=s.sup
  have hlt0:=hp.lt
  have h3:=s.t3
  have h13:=s.n13
  have ht2:t≤2:=by omega
  have hm10:m*(t+3)≤10:=Nat.le_trans (Nat.mul_le_mul hm2 (show t+3≤5 by omega)) (by omega)
  have e0:max 1 ((n:Int)+1).toNat=n+1:=by omega
  have hsplit:m*(hH t+(t+3)*(t*(t+1) / 2))=m*hH t+m*(t+3)*(t*(t+1) / 2):=by rw [Nat.mul_add,Nat.mul_assoc]
  have hd0:∀ d,d < n→ps d+m*hH t≤(tp d).length:=fun d hd=>by have:=h d hd;omega
  obtain ⟨T1,q,eT1,ql,qd,tT1⟩:=B5 (net:=⟨w,round,v0,T0⟩) (r1:=w) hp s.T ht hm2 hn hts hd0 hlt
  have hql:∀ d,d < n→(q.getD d []).length=m*(t+3):=fun d hd=>(qd d hd).len
  have Q:Qs w.S.P n t q (rem n tp fun i=>ps i+m*hH t):=by
    refine ⟨ql,by simp [rem],fun d hd=>?_,fun d hd=>?_,fun d hd k hk=>?_⟩
    · rw [hql d hd,vq hd,List.length_drop]
      have:=h d hd
      exact ⟨hm10,by omega⟩
    · rw [vq hd,List.length_drop]
      refine ⟨by have:=(hts.le d hd).2;omega,fun i hi=>?_⟩
      rw [List.getD_eq_getElem?_getD,List.getElem?_drop,← List.getD_eq_getElem?_getD]
      exact (hlt d hd).get hp.pos _
    · rw [hql d hd] at hk
      exact (qd d hd).ww k hk
  obtain ⟨res,v1,T2,eS,tT2,R,hv1,C,_⟩:=GQ (net:=⟨w,round,v0,T1⟩) s ht hn Q tT1 hV (by omega) ⟨hr.1,by show round≤800;omega⟩
  simp only at eS R hv1 C
  have F:=Ou.fm R hql
  obtain ⟨all,v2,eC,hsay,hv2⟩:=wQ (net:=⟨w,round+7,v1,T2⟩) s F hn ht2 hm hm2 hv1 (by omega) ⟨by show 0≤round+7;omega,by show round+7≤1000;omega⟩
  simp only at eC hsay
  generalize hcl:EB n m (fun d=>res.aZ.getD d false) all n=cl at *
  have hmem:∀ c,c ∈ cl ↔ c.1 < n∧c.2.1 < n∧c.2.2 < m∧(all.getD c.1 []).getD (c.2.1*m+c.2.2) 0≠0∧res.aZ.getD c.2.1 false=false:=fun c=>by rw [← hcl];exact HN hm
  have hlen:cl.length≤98:=by
    rw [← hcl]
    refine Nat.le_trans zE (Nat.le_trans (Nat.mul_le_mul hn (Nat.mul_le_mul hn hm2)) (by omega))
  have hex:∀ d k b,∃ f:List Nat,d < n→k < m*(t+3)→f.length≤t+1∧∀ i,i < n→Hn w i→cc (P w.S.P (xW res i d k)) (o w.S.P (b+1))=cc (P w.S.P f) (o w.S.P (i+1)):=fun d k b=>by
    by_cases g:d < n∧k < m*(t+3)
    · obtain ⟨f,_,f2,f3⟩:=C.sp d g.1 k (by rw [hql d g.1];exact g.2) (o w.S.P (b+1))
      exact ⟨f,fun _ _=>⟨f2,f3⟩⟩
    · exact ⟨[],fun h1 h2=>absurd ⟨h1,h2⟩ g⟩
  have hF:=fun d k b=>Classical.choose_spec (hex d k b)
  generalize hF0:(fun d k b=>Classical.choose (hex d k b))=F0 at *
  have hF:∀ d k b,d < n→k < m*(t+3)→(F0 d k b).length≤t+1∧∀ i,i < n→Hn w i→cc (P w.S.P (xW res i d k)) (o w.S.P (b+1))=cc (P w.S.P (F0 d k b)) (o w.S.P (i+1)):=fun d k b=>by
    rw [← hF0];exact hF d k b
  obtain ⟨out,round3,v3,eJ,j1,j2,j3,j4,j5⟩:=Cg (net:=⟨w,round+7+1,v2,T2⟩) (F0:=F0) s F hn ht2 hm2 hlen (fun c hc=>⟨((hmem c).1 hc).1,((hmem c).1 hc).2.1,((hmem c).1 hc).2.2.1⟩) hv2 (by omega) ⟨by show 0≤round+7+1;omega,by show round+7+1≤1000;omega⟩
    (fun d hd k hk b hb=>⟨(hF d k b hd hk).1,fun i hi hc=>(hF d k b hd hk).2 i hi (.inl hc)⟩)
  simp only at eJ j4 j5
  have hix:∀ k,k < m→∀ j,j < t+3→k*(t+3)+j < m*(t+3):=fun k hk j hj=>by
    have:k*(t+3)+(t+3)≤m*(t+3):=by rw [← Nat.succ_mul];exact Nat.mul_le_mul_right (t+3) hk
    omega
  -- an honest dealer's matrices
  have hM:=fun d (hd:d < n) k (hk:k < m*(t+3))=>xt hp.pos ht Q hd (show k < (q.getD d []).length by rw [hql d hd];exact hk)
  have hMe:∀ d,d < n→∀ k,k < m*(t+3)→(Sm q (rem n tp fun i=>ps i+m*hH t) t d).getD k []=mx ((q.getD d []).getD k []) (Ay ((tp d).drop (ps d+m*hH t)) t k):=fun d hd k hk=>by
    rw [ze (show k < (q.getD d []).length by rw [hql d hd];exact hk),vq hd]
  have hrow0:∀ d,d < n→∀ k,k < m*(t+3)→((Sm q (rem n tp fun i=>ps i+m*hH t) t d).getD k []).getD 0 []=(q.getD d []).getD k []:=fun d hd k hk=>by
    have hk':k < (q.getD d []).length:=by rw [hql d hd];exact hk
    rw [ze hk',Jx ht (Q.w d hd k hk').1 (z9 (Q.many d hd).2 hk')]
  -- the identity of the polynomials that an honest dealer draws
  have hid:∀ d,d < n→∀ k,k < m→∀ x,cc (P w.S.P ((q.getD d []).getD (k*(t+3)) [])) x*cc (P w.S.P ((q.getD d []).getD (k*(t+3)+1) [])) x - sm t (fun j=>x ^ (j+1)*cc (P w.S.P ((q.getD d []).getD (k*(t+3)+(2+j)) [])) x)=cc (P w.S.P ((q.getD d []).getD (k*(t+3)+(2+t)) [])) x:=fun d hd k hk x=>by
    obtain ⟨f1,f2,f3⟩:=(qd d hd).pf k hk
    rw [f1,f2,f3.eq x,← Nat.add_assoc,bY (f:=fun j=>x ^ (j+1)*cc (P w.S.P ((q.getD d []).getD (k*(t+3)+(2+j)) [])) x) (g:=fun j=>x ^ (j+1)*cc (P w.S.P ((q.getD d []).getD (k*(t+3)+2+j) [])) x) fun j _=>by rw [Nat.add_assoc]]
    grind
  -- honest parties see an honest dealer's rows
  have hown:∀ d,d < n→Hn w d→∀ i,i < n→Hn w i→∀ k,k < m→hv w.S.P t i (Aj t fun j=>xW res i d (k*(t+3)+j))=true:=fun d hd hhd i hi hhi k hk=>by
    have hr:∀ j,j < t+3→o w.S.P ((xW res i d (k*(t+3)+j)).getD 0 0)=cc (P w.S.P ((q.getD d []).getD (k*(t+3)+j) [])) (o w.S.P (i+1)):=fun j hj=>by
      have hk':=hix k hk j hj
      have:=R.ok d hd hhd i hi hhi (k*(t+3)+j) (by rw [hql d hd];exact hk')
      unfold xW
      rw [this,P6 hp ht2 (hM d hd _ hk').2.1 (hM d hd _ hk').2.2 (by omega),hrow0 d hd _ hk']
    rw [zV,decide_eq_true_iff,hr 0 (by omega),hr 1 (by omega),hr (2+t) (by omega),bY fun j hj=>by rw [hr (2+j) (by omega)],Nat.add_zero]
    exact hid d hd k hk _
  -- honest dealers are not disqualified
  have hhon:∀ d,d < n→Hn w d→out.getD d false=false:=fun d hd hh=>by
    cases hx:out.getD d false
    · rfl
    · exfalso
      rcases (j2 d hd).1 hx with h1 | ⟨c,hc,hcd,hb⟩
      · rw [R.nd d hd hh] at h1;cases h1
      · obtain ⟨c1,c2,c3,_,_⟩:=(hmem c).1 hc
        have hop:∀ j,j < t+3→o w.S.P ((F0 d (c.2.2*(t+3)+j) c.1).getD 0 0)=cc (P w.S.P ((q.getD d []).getD (c.2.2*(t+3)+j) [])) (o w.S.P (c.1+1)):=fun j hj=>by
          have hk':=hix _ c3 j hj
          have f1:=hF d (c.2.2*(t+3)+j) c.1 hd hk'
          rw [← hrow0 d hd _ hk']
          exact D3 s ht2 (hM d hd _ hk').2.1 (hM d hd _ hk').2.2 c1 f1.1 (fun i hi hci=>by
            rw [← f1.2 i hi (.inl hci)]
            have:=R.ok d hd hh i hi (.inl hci) (c.2.2*(t+3)+j) (by rw [hql d hd];exact hk')
            unfold xW
            rw [this])
        apply hb
        rw [hcd,show c.2.2*(t+3)=c.2.2*(t+3)+0 from rfl,hop 0 (by omega),Nat.add_zero,hop 1 (by omega),hop (2+t) (by omega),bY fun j hj=>by rw [hop (2+j) (by omega)],Nat.add_zero]
        exact hid d hd _ c3 _
  -- what dealers that are left have dealt
  have hstd:∀ d,d < n→∀ k,k < m→∃ z:Nat→Fin w.S.P,∀ j,j < t+3→BP w n t (shr res n d (k*(t+3)+j)) (z j):=fun d hd k hk=>by
    have h1:∀ j,∃ z,j < t+3→BP w n t (shr res n d (k*(t+3)+j)) z:=fun j=>by
      by_cases hj:j < t+3
      · obtain ⟨z,Z⟩:=Com.std s C F hql hd (hix k hk j hj)
        exact ⟨z,fun _=>Z⟩
      · exact ⟨0,fun h=>absurd h hj⟩
    exact ⟨fun j=>Classical.choose (h1 j),fun j hj=>Classical.choose_spec (h1 j) hj⟩
  have hprod:∀ d,d < n→out.getD d false=false→∀ k,k < m→∀ z:Nat→Fin w.S.P,(∀ j,j < t+3→BP w n t (shr res n d (k*(t+3)+j)) (z j))→z (2+t)=z 0*z 1:=fun d hd ho k hk z Z=>by
    have hnot:¬ (res.aZ.getD d false=true ∨ ∃ c ∈ cl,c.2.1=d∧Bd w.S.P t F0 c):=fun hh=>by
      rw [(j2 d hd).2 hh] at ho;cases ho
    refine JG s (R:=fun j=>shr res n d (k*(t+3)+j)) Z fun i hi hc=>?_
    have hsv:(Aj t fun j=>(shr res n d (k*(t+3)+j)).getD i [])=Aj t fun j=>xW res i d (k*(t+3)+j):=by
      unfold Aj
      refine List.map_congr_left fun j _=>?_
      show ((shr res n d (k*(t+3)+j)).getD i []).getD 0 0=(xW res i d (k*(t+3)+j)).getD 0 0
      rw [lf hi]
    show hv w.S.P t i (Aj t fun j=>(shr res n d (k*(t+3)+j)).getD i [])=true
    rw [hsv]
    cases hh:hv w.S.P t i (Aj t fun j=>xW res i d (k*(t+3)+j))
    · exfalso
      have hdq:res.aZ.getD d false=false:=by
        cases hx:res.aZ.getD d false
        · rfl
        · exact absurd (.inl hx) hnot
      have hdm:d*m+k < n*m:=by
        have:d*m+m≤n*m:=by rw [← Nat.succ_mul];exact Nat.mul_le_mul_right m hd
        omega
      have q1:(d*m+k) / m=d:=by rw [Nat.mul_comm,Nat.mul_add_div hm,Nat.div_eq_of_lt hk,Nat.add_zero]
      have q2:(d*m+k) % m=k:=by rw [Nat.mul_comm,Nat.mul_add_mod,Nat.mod_eq_of_lt hk]
      have hin:(i,d,k) ∈ cl:=(hmem _).2 ⟨hi,hd,hk,by
        show (all.getD i []).getD (d*m+k) 0≠0
        rw [hsay i hi (.inl hc)]
        unfold uQ vt
        rw [jf hi,jf hdm,q1,q2,hh]
        decide,hdq⟩
      apply hnot
      refine .inr ⟨_,hin,rfl,fun hb=>?_⟩
      simp only at hb
      have ho:∀ j,j < t+3→o w.S.P ((F0 d (k*(t+3)+j) i).getD 0 0)=o w.S.P ((xW res i d (k*(t+3)+j)).getD 0 0):=fun j hj=>by
        have f1:=hF d (k*(t+3)+j) i hd (hix k hk j hj)
        have:=Gg s (Z j hj) hi hc f1.1 (fun i' hi' hc'=>by rw [lf hi'];exact f1.2 i' hi' (.inl hc'))
        rw [this,lf hi]
      rw [zV,decide_eq_false_iff_not] at hh
      apply hh
      rw [show k*(t+3)=k*(t+3)+0 from rfl,ho 0 (by omega),Nat.add_zero,ho 1 (by omega),ho (2+t) (by omega),bY fun j hj=>by rw [ho (2+j) (by omega)]] at hb
      exact hb
    · rfl
  unfold gK bp
  rw [bS,eF (by omega),cF,s.N,e0,bT (by omega),bS,Nat.add_sub_cancel,eT1,bS]
  simp only
  rw [eS,bS]
  simp only
  rw [eC,bS]
  simp only
  rw [eJ,bS,J0 F s.N s.T hn ht2 hm2 j1,bS]
  have hL:∀ d,d < n→∀ k,k < m→((G6 res (fun d=>out.getD d false) n t m).getD d []).getD k ⟨[],[],[]⟩=EF res (fun d=>out.getD d false) n t d k:=fun d hd k hk=>by
    unfold G6
    rw [jf hd,jf hk]
  have hF2:∀ d k,out.getD d false=false→EF res (fun d=>out.getD d false) n t d k=⟨shr res n d (k*(t+3)),shr res n d (k*(t+3)+1),shr res n d (k*(t+3)+(t+2))⟩:=fun d k ho=>by
    unfold EF
    exact if_neg (by show ¬ out.getD d false=true;rw [ho];decide)
  have hT2:∀ d k,out.getD d false=true→EF res (fun d=>out.getD d false) n t d k=⟨List.replicate n (List.replicate (t+1) 0),List.replicate n (List.replicate (t+1) 0),List.replicate n (List.replicate (t+1) 0)⟩:=fun d k ho=>by
    unfold EF
    exact if_pos ho
  refine ⟨_,out,round3,v3,T2,rfl,ko,j1,fun d hd=>by unfold G6;rw [jf hd,ko],fun d hd k hk=>?_,hhon,fun d hd hh k hk i hi hhi=>?_,tT2.congr fun i hi=>?_,(by rcases j4 with h | h <;> omega),fun hdev=>?_⟩
  · rw [hL d hd k hk]
    cases ho:out.getD d false
    · obtain ⟨z,Z⟩:=hstd d hd k hk
      rw [hF2 d k ho]
      have hz:=hprod d hd ho k hk z Z
      refine ⟨z 0,z 1,Z 0 (by omega),Z 1 (by omega),?_,(fun h=>by cases h),fun hh=>?_⟩
      · rw [← hz,Nat.add_comm t 2];exact Z (2+t) (by omega)
      · have hsec:∀ j,j < t+3→z j=o w.S.P (((q.getD d []).getD (k*(t+3)+j) []).getD 0 0):=fun j hj=>by
          have hk':=hix k hk j hj
          obtain ⟨g,g1,g2,g3⟩:=(Z j hj).sp 0
          have hM0:=hrow0 d hd _ hk'
          have hcf:=xf s (f:=g) (g:=P w.S.P (((Sm q (rem n tp fun i=>ps i+m*hH t) t d).getD (k*(t+3)+j) []).getD 0 [])) (by omega) (by rw [mS,(hM d hd _ hk').2.1.row 0 (by omega)];omega) (fun i hi hc=>by
            rw [← g2 i hi (.inl hc),lf hi,xE,← P6 hp ht2 (hM d hd _ hk').2.1 (hM d hd _ hk').2.2 (by omega)]
            have:=R.ok d hd hh i hi (.inl hc) (k*(t+3)+j) (by rw [hql d hd];exact hk')
            unfold xW
            rw [this])
          have h0:=kU hcf 0
          rw [g3 rfl,xE,hM0] at h0
          exact h0
        obtain ⟨f1,f2,_⟩:=(qd d hd).pf k hk
        exact ⟨by rw [hsec 0 (by omega),Nat.add_zero,f1],by rw [hsec 1 (by omega),f2]⟩
    · rw [hT2 d k ho]
      refine ⟨0,0,ya s,ya s,?_,fun _=>⟨rfl,rfl⟩,fun hh=>?_⟩
      · have:(0:Fin w.S.P)*0=0:=by grind
        rw [this];exact ya s
      · rw [hhon d hd hh] at ho;cases ho
  · rw [hL d hd k hk,hF2 d k (hhon d hd hh)]
    have hr:∀ j,j < t+3→(shr res n d (k*(t+3)+j)).getD i []=Rw w.S.P (mx ((q.getD d []).getD (k*(t+3)+j) []) (Ay ((tp d).drop (ps d+m*hH t)) t (k*(t+3)+j))) (i+1):=fun j hj=>by
      have hk':=hix k hk j hj
      rw [lf hi,← hMe d hd _ hk']
      exact R.ok d hd hh i hi hhi _ (by rw [hql d hd];exact hk')
    obtain ⟨f1,f2,_⟩:=(qd d hd).pf k hk
    have f3:=(qd d hd).cv k hk
    have r0:=hr 0 (by omega)
    have r1:=hr 1 (by omega)
    have r2:=hr (t+2) (by omega)
    rw [Nat.add_zero,f1] at r0
    rw [f2] at r1
    rw [show k*(t+3)+(t+2)=k*(t+3)+2+t by omega,f3] at r2
    exact ⟨r0,r1,by rw [show k*(t+3)+(t+2)=k*(t+3)+2+t by omega];exact r2⟩
  · rw [hql i hi,hsplit];omega
  · have:cl=[]:=by
      rcases cl with _ | ⟨c,l⟩
      · rfl
      · exfalso
        obtain ⟨c1,c2,c3,c4,_⟩:=(hmem c).1 (List.mem_cons_self ..)
        apply c4
        have hdm:c.2.1*m+c.2.2 < n*m:=by
          have:c.2.1*m+m≤n*m:=by rw [← Nat.succ_mul];exact Nat.mul_le_mul_right m c2
          omega
        have q1:(c.2.1*m+c.2.2) / m=c.2.1:=by rw [Nat.mul_comm,Nat.mul_add_div hm,Nat.div_eq_of_lt c3,Nat.add_zero]
        have q2:(c.2.1*m+c.2.2) % m=c.2.2:=by rw [Nat.mul_comm,Nat.mul_add_mod,Nat.mod_eq_of_lt c3]
        rw [hsay _ c1 (.inr hdev)]
        unfold uQ vt
        rw [jf c1,jf hdm,q1,q2,hown _ c2 (.inr hdev) _ c1 (.inr hdev) _ c3]
        rfl
    rw [j5 this];omega
end Pu

/- Plain laws of chapter 22: fair scenarios, what the laws look at. -/
set_option linter.unusedVariables false
namespace Pu
open Gw Gl Sp
theorem BA {body:Nat→Unit→Option (Out Unit Bool)} {n:Nat} (G:Nat→Prop) (h:∀ k,k < n→body k ()=some (.fin false) ∨ (body k ()=some (.go ())∧G k)):qQ body n 0 ()=some (.fin false) ∨ (qQ body n 0 ()=some (.go ())∧∀ k,k < n→G k):=by
  obtain ⟨o,e,ho⟩:=iq (body:=body) (fun k _=>∀ j,j < k→G j) (fun b=>b=false) (rem:=n) (k:=0) (s:=()) (fun j hj=>by omega) (fun k s _ hk hI=>by
    rcases h k (by omega) with e | ⟨e,hg⟩
    · exact ⟨_,e,rfl⟩
    · refine ⟨_,e,fun j hj=>?_⟩
      by_cases g:j=k
      · subst g;exact hg
      · exact hI j (by omega))
  cases o with
  | fin b=>exact .inl (by rw [e,show b=false from ho])
  | go u=>exact .inr ⟨e,fun k hk=>ho k (by omega)⟩
theorem OY:lT=some true:=by decide +kernel
theorem Jr {l:List Int} {k:Int}:jP l k=some (decide (k ∈ l)):=by
  unfold jP
  rw [Nat.sub_zero]
  obtain ⟨o,e,ho⟩:=iq (body:=fun k1 (st:Unit)=>lV l k k1) (fun j _=>∀ i,i < j→l.getD i 0≠k) (fun r=>r=true∧k ∈ l) (rem:=l.length) (k:=0) (s:=()) (fun i hi=>by omega) (fun j _ _ hj h=>by
    unfold lV
    rw [ix 0 (by omega),bS]
    by_cases g:l.getD j 0=k
    · rw [eT g,cT];exact ⟨_,rfl,rfl,by rw [← g];exact getD_in (by omega)⟩
    · rw [eF g,cF]
      refine ⟨_,rfl,fun i hi=>?_⟩
      by_cases q:i=j
      · subst q;exact g
      · exact h i (by omega))
  rw [e,bS]
  cases o with
  | fin r=>rw [oF,ho.1,dT ho.2]
  | go u =>
    rw [oG,dF (fun hm=>by
      obtain ⟨i,hi,h2⟩:=List.getElem_of_mem hm
      exact ho i (by omega) (by rw [List.getD_eq_getElem?_getD,List.getElem?_eq_getElem hi];exact h2))]
theorem Ci {w:ae} {q:Nat} (hK:∀ x ∈ w.aa,x.K < 18446744073709551616):∃ b,jI w ((q:Nat):Int) ((8:Nat):Int) ((120:Nat):Int)=some b∧(b=true→∃ n t,Va w n t∧du w=some true∧n≤q):=by
  unfold jI
  by_cases g0:w.S.N > ((q:Nat):Int)
  · rw [dT g0,cT,bS,cT];exact ⟨_,rfl,fun h=>by cases h⟩
  · rw [dF g0,cF]
    by_cases g1:((w.aa.length:Nat):Int) > ((8:Nat):Int)
    · rw [dT g1,cT,bS,cT];exact ⟨_,rfl,fun h=>by cases h⟩
    · rw [dF g1,cF]
      by_cases g2:((w.ay.length:Nat):Int) > ((q:Nat):Int)
      · rw [dT g2,bS,cT];exact ⟨_,rfl,fun h=>by cases h⟩
      · rw [dF g2,bS,cF,Nat.sub_zero]
        rcases BA (body:=fun k1 (st:Unit)=>j6 w ((120:Nat):Int) k1) (n:=w.ay.length) (fun i=>(w.ay.getD i []).length≤120) (fun k hk=>by
          unfold j6
          rw [ix [] hk,bS]
          by_cases g:(w.ay.getD k []).length≤120
          · rw [dF (by omega),cF];exact .inr ⟨rfl,g⟩
          · rw [dT (by omega),cT];exact .inl rfl) with e | ⟨e,ho⟩
        · rw [e,bS,oF];exact ⟨_,rfl,fun h=>by cases h⟩
        · rw [e,bS,oG]
          obtain ⟨b,eb,hb⟩:=JL (w:=w)
          rw [eb,bS]
          refine ⟨_,rfl,fun hbt=>?_⟩
          subst hbt
          obtain ⟨n,t,par,c1,c2,c3,c4,c5,c6⟩:=hb rfl
          have hd:∀ x ∈ w.aa,Dv w.S x:=fun x hx=>by
            obtain ⟨i,hi,rfl⟩:=List.getElem_of_mem hx
            have:=c5 i hi
            rw [List.getD_eq_getElem?_getD,List.getElem?_eq_getElem hi] at this
            exact this
          have hN:=par.N
          refine ⟨n,t,{ sup:=par.sup,N:=par.N,T:=par.T,n4:=par.n4,n13:=par.n13,t1:=par.t1,t3:=par.t3,cl:=c1,cr:=c2,dl:=by omega,dv:=fun x hx=>?_,ord:=c3,tl:=c4,tb:=fun i hi=>c6 i (by omega),ts:=fun i hi=>by have:=ho i (by omega);omega,full:=fun x hx=>?_ },rfl,by omega⟩
          · obtain ⟨d1,d2,d3,d4,d5,d6,d7,d8,d9,d10,d11,d12⟩:=hd x hx
            rw [par.N] at d5 d11
            exact ⟨d4,d5,d2,d3,d10,d11,d12,hK x hx⟩
          · obtain ⟨d1,d2,d3,d4,d5,d6,d7,d8,d9,d10,d11,d12⟩:=hd x hx
            rw [par.N] at d7
            exact ⟨d1,d6,d7,d8,d9⟩
theorem FO {s:aD} {t m:Nat} (hT:s.T=((t:Nat):Int)) (ht:t=1 ∨ t=2) (hm:m≤2):kJ s ((m:Nat):Int)=some ((m*(hH t+(t+3)*(t*(t+1) / 2)):Nat):Int)∧p9 s ((m:Nat):Int)=some ((m*(hH t+(t+3)*(t*(t+1) / 2)):Nat):Int):=by
  obtain ⟨P,N,T⟩:=s
  simp only at hT
  subst hT
  have:m=0 ∨ m=1 ∨ m=2:=by omega
  rcases ht with rfl | rfl <;> rcases this with rfl | rfl | rfl <;> exact ⟨rfl,rfl⟩
theorem Py {m:Nat} (h:m≤2):JY ((m:Nat):Int)=((m:Nat):Int):=by
  have:m=0 ∨ m=1 ∨ m=2:=by omega
  rcases this with rfl | rfl | rfl <;> decide +kernel
theorem DU {w:ae} {m q:Nat} (hK:∀ x ∈ w.aa,x.K < 18446744073709551616) (hq:q≤7):∃ b,km w m ((q:Nat):Int) 2=some b∧(b=true→∃ n t,Va w n t∧du w=some true∧n≤q∧(t=1 ∨ t=2)∧m≤2∧JY ((m:Nat):Int)=((m:Nat):Int)∧∀ i,i < n→m*(hH t+(t+3)*(t*(t+1) / 2))≤(w.ay.getD i []).length):=by
  unfold km
  by_cases g0:m≤2
  · rw [dT (by omega),cT]
    obtain ⟨b,eb,hb⟩:=Ci (w:=w) (q:=q) hK
    rw [eb,bS]
    cases b
    · rw [cF];exact ⟨_,rfl,fun h=>by cases h⟩
    · obtain ⟨n,t,v,hv,hn⟩:=hb rfl
      have ht:t=1 ∨ t=2:=by have:=v.t1;have:=v.t3;omega
      have hu:JY ((m:Nat):Int)=((m:Nat):Int):=Py g0
      have hl:=(FO (s:=w.S) v.T ht g0).1
      generalize hneed:m*(hH t+(t+3)*(t*(t+1) / 2))=need at hl
      rw [cT]
      generalize JY ((m:Nat):Int)=z at hu
      subst hu
      rw [bS,hl,bS]
      unfold mE
      rw [v.tl,Nat.sub_zero]
      rcases BA (body:=fun k1 (st:Unit)=>kI w ((need:Nat):Int) k1) (n:=n) (fun i=>need≤(w.ay.getD i []).length) (fun i hi=>by
        unfold kI
        rw [ix [] (by rw [v.tl];exact hi),bS]
        by_cases g:need≤(w.ay.getD i []).length
        · rw [dF (by omega),cF];exact .inr ⟨rfl,g⟩
        · rw [dT (by omega),cT];exact .inl rfl) with e | ⟨e,h⟩
      · rw [e,bS,oF,bS];exact ⟨_,rfl,fun h=>by cases h⟩
      · rw [e,bS,oG,bS];exact ⟨_,rfl,fun _=>⟨n,t,v,hv,hn,ht,g0,rfl,by rw [hneed];exact h⟩⟩
  · rw [dF (by omega),cF];exact ⟨_,rfl,fun h=>by cases h⟩
section
variable {w:ae} {n t:Nat}
variable [NeZero w.S.P]
end
/-- what Generate leaves -/
structure Qb (w:ae) [NeZero w.S.P] (n t m:Nat) (L:List (List bm)) (out:List Bool) (round:Int) (T:List aH):Prop where
  ll:L.length=n
  ol:out.length=n
  rl:∀ d,d < n→(L.getD d []).length=m
  st:∀ d,d < n→∀ k,k < m→∃ a b,BP w n t ((L.getD d []).getD k ⟨[],[],[]⟩).A a∧BP w n t ((L.getD d []).getD k ⟨[],[],[]⟩).B b∧BP w n t ((L.getD d []).getD k ⟨[],[],[]⟩).C (a*b)∧(out.getD d false=true→a=0∧b=0)∧(Hn w d→a=o w.S.P ((w.ay.getD d []).getD (k*hH t) 0)∧b=o w.S.P ((w.ay.getD d []).getD (k*hH t+(t+1)) 0))
  ho:∀ d,d < n→Hn w d→out.getD d false=false
  ex : ∀ d, d < n → Hn w d → ∀ k, k < m → ∀ i, i < n → Hn w i → (((L.getD d []).getD k ⟨[], [], []⟩).A).getD i [] = Rw w.S.P (mx (hA (w.ay.getD d []) 0 t k) (Ay ((w.ay.getD d []).drop (0 + m * hH t)) t (k * (t + 3)))) (i + 1) ∧
        (((L.getD d []).getD k ⟨[],[],[]⟩).B).getD i []=Rw w.S.P (mx (hB (w.ay.getD d []) 0 t k) (Ay ((w.ay.getD d []).drop (0+m*hH t)) t (k*(t+3)+1))) (i+1) ∧
        (((L.getD d []).getD k ⟨[],[],[]⟩).C).getD i []=Rw w.S.P (mx (hC w.S.P (w.ay.getD d []) 0 t k) (Ay ((w.ay.getD d []).drop (0+m*hH t)) t (k*(t+3)+(t+2)))) (i+1)
  tp:BR n T (fun i=>w.ay.getD i []) (fun i=>m*(hH t+(t+3)*(t*(t+1) / 2)))
  r0:m=0→round=0
  r8:0 < m→round=8 ∨ round=9
  rd:w.aa=[]→0 < m→round=8
theorem O6 {l:List Nat} {a t k:Nat}:(hA l a t k).getD 0 0=l.getD (a+k*hH t) 0:=by
  unfold hA
  rw [List.getD_eq_getElem?_getD,List.getElem?_take,if_pos (by omega),List.getElem?_drop,Nat.add_zero,← List.getD_eq_getElem?_getD]
theorem P5 {l:List Nat} {a t k:Nat}:(hB l a t k).getD 0 0=l.getD (a+k*hH t+(t+1)) 0:=by
  unfold hB
  rw [List.getD_eq_getElem?_getD,List.getElem?_take,if_pos (by omega),List.getElem?_drop,Nat.add_zero,← List.getD_eq_getElem?_getD]
theorem Jk {w:ae} {n t m:Nat} [NeZero w.S.P] (v:Va w n t) (hn:n≤7) (ht:t=1 ∨ t=2) (hm:m≤2) (h:∀ i,i < n→m*(hH t+(t+3)*(t*(t+1) / 2))≤(w.ay.getD i []).length) :
    ∃ L out round views T,gK ⟨w,0,List.replicate n [],w.ay.map fun l=>⟨l,0⟩⟩ ((m:Nat):Int)=some (L,out,round,views,T)∧Qb w n t m L out round T:=by
  have hts:BR n (w.ay.map fun l=>(⟨l,0⟩:aH)) (fun i=>w.ay.getD i []) (fun _=>0):=⟨by simp [v.tl],fun i hi=>by
    have:i < w.ay.length:=by rw [v.tl];exact hi
    simp [List.getD_eq_getElem?_getD,this],fun i hi=>⟨Nat.zero_le _,v.ts i hi⟩⟩
  by_cases hm0:0 < m
  · obtain ⟨L,out,round,views,T,e,a1,a2,a3,a4,a5,a6,a7,a8,a9⟩:=FC (net:=⟨w,0,List.replicate n [],w.ay.map fun l=>⟨l,0⟩⟩) (B:=0) v.toSc ht hn hm0 hm hts (fun d hd=>by rw [Nat.zero_add];exact h d hd) (fun d hd=>v.tb d hd) ⟨by simp,fun j hj=>by simp [List.getD_eq_getElem?_getD,hj]⟩ (by omega) (by show 0≤(0:Int)∧(0:Int)≤700;omega)
    refine ⟨L,out,round,views,T,e,a1,a2,a3,fun d hd k hk=>?_,a5,a6,a7.congr fun i hi=>by rw [Nat.zero_add],fun h=>by omega,fun _=>?_,fun h _=>?_⟩
    · obtain ⟨a,b,b1,b2,b3,b4,b5⟩:=a4 d hd k hk
      refine ⟨a,b,b1,b2,b3,b4,fun hh=>?_⟩
      obtain ⟨c1,c2⟩:=b5 hh
      rw [O6,Nat.zero_add] at c1
      rw [P5,Nat.zero_add] at c2
      exact ⟨c1,c2⟩
    · simp only at a8;omega
    · have:=a9 h;simp only at this;omega
  · have:m=0:=by omega
    subst this
    have h13:=v.n13
    unfold gK bp
    rw [bS,eT (a:=((0:Nat):Int)) (b:=0) rfl,cT,v.N,ck (by omega) (by omega) (by omega) (by omega),bS,ck (by omega) (by omega) (by omega) (by omega),bS]
    refine ⟨_,_,_,_,_,rfl,by simp,by simp,fun d hd=>by simp [List.getD_eq_getElem?_getD,hd],fun d hd k hk=>by omega,fun d hd _=>by simp [List.getD_eq_getElem?_getD,hd],fun d hd _ k hk=>by omega,hts.congr fun i hi=>by rw [Nat.zero_mul],fun _=>rfl,fun h=>by omega,fun _ h=>by omega⟩
end Pu

/- Laws of chapter 22 about one run: tapes, dealers, products. -/
set_option linter.unusedVariables false
namespace Pu
open Gw Gl Sp
theorem HK {w:ae} {out:List Bool} {n:Nat} (h:∀ d,d < n→(((d:Nat):Int)+1) ∉ w.af→out.getD d false=false):∀ {k:Nat},k≤n→(Ax w k).length≤((List.range k).filter fun d=>!out.getD d false).length:=fun {k} hk=>by
  induction k with
  | zero=>simp [Ax]
  | succ k ih =>
    have ih:=ih (by omega)
    rw [FI,List.range_succ,List.filter_append,List.length_append,List.length_append]
    by_cases g:(((k:Nat):Int)+1) ∉ w.af
    · rw [if_pos g,List.filter_cons,if_pos (by rw [h k (by omega) g];rfl)]
      simp only [List.length_cons,List.filter_nil]
      omega
    · rw [if_neg g];simp only [List.length_nil];omega
theorem Ch (w:ae) (m:Nat) (hK:∀ y ∈ w.aa,y.K < 18446744073709551616):dW w m=some true:=by
  unfold dW
  rw [OY,bS,nT,cF]
  obtain ⟨b,eb,hb⟩:=DU (w:=w) (m:=m) (q:=7) hK (by omega)
  rw [eb,bS]
  cases b
  · rw [nF,cT]
  · obtain ⟨n,t,v,_,hn,ht,hm,hu,hl⟩:=hb rfl
    have:NeZero w.S.P:=v.sup.ne
    have h13:=v.n13
    have h3:=v.t3
    have e0:max 0 ((n:Int)).toNat=n:=by omega
    obtain ⟨L,out,round,views,T,e,g⟩:=Jk v hn ht hm hl
    have ol:=g.ol
    have ho:=g.ho
    rw [nT,cF,LU v,bS,sR]
    generalize JY ((m:Nat):Int)=z at hu
    subst hu
    rw [bS,e,bS]
    simp only
    rw [v.N,qF (by omega),cF,e0,bT (by omega),bS,Nat.sub_zero]
    obtain ⟨o,eo,hoo⟩:=iq (body:=fun k1 (st:Int)=>dE w (L,out,round,views,T) k1 st) (fun k st=>st=((((List.range k).filter fun d=>!out.getD d false).length:Nat):Int)) (fun _=>False) (rem:=n) (k:=0) (s:=((0:Nat):Int)) rfl (fun k st _ hk h=>by
      have hk:k < n:=by omega
      have hc:((List.range k).filter fun d=>!out.getD d false).length≤k:=Nat.le_trans (List.length_filter_le ..) (by simp)
      subst h
      have e2:((List.range (k+1)).filter fun d=>!out.getD d false).length=((List.range k).filter fun d=>!out.getD d false).length+([k].filter fun d=>!out.getD d false).length:=by
        rw [List.range_succ,List.filter_append,List.length_append]
      unfold dE
      simp only
      rw [ix false (by omega),bS]
      cases hb:out.getD k false
      · rw [cF,bS,cF,bS,nF,cT,bk (by omega) (by omega),bS]
        refine ⟨_,rfl,?_⟩
        rw [e2,show ([k].filter fun d=>!out.getD d false).length=1 by rw [List.filter_cons,hb];rfl]
        show (((List.range k).filter fun d=>!out.getD d false).length:Int)+1=_
        omega
      · rw [cT,bk (by omega) (by omega),bS,Jr,bS]
        by_cases gc:(((k:Nat):Int)+1) ∈ w.af
        · rw [dT gc,nT,bS,cF,bS,nT,cF]
          refine ⟨_,rfl,?_⟩
          rw [e2,show ([k].filter fun d=>!out.getD d false).length=0 by rw [List.filter_cons,hb];rfl,Nat.add_zero]
          exact rfl
        · rw [ho k hk (.inl gc)] at hb;cases hb)
    cases o with
    | fin r=>exact hoo.elim
    | go st =>
      rw [Nat.zero_add] at hoo
      have h1:=HK (w:=w) (out:=out) (n:=n) (fun d hd hh=>ho d hd (.inl hh)) (Nat.le_refl n)
      have h2:=zU v.toSc
      have h3':((List.range n).filter fun d=>!out.getD d false).length≤n:=Nat.le_trans (List.length_filter_le ..) (by simp)
      rw [eo,bS,oG,v.T,gE (by omega) (by omega),bS,bk (by omega) (by omega),bS,dT (by rw [hoo];omega)]
end Pu
