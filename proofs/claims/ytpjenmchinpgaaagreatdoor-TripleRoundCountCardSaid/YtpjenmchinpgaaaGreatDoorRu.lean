/- Plain laws of chapter 22: what Generate returns. -/
import Derived.Test.YtpjenmchinpgaaaGreatDoorRt
set_option linter.unusedVariables false
namespace Pu
open Gw Gl Sp
theorem Kh{t:Nat}{f r:List Nat}(ht:t=1∨t=2)(hf:f.length=t+1)(hr:r.length=t*(t+1) / 2):(mx f r).getD 0 []=f:=by
 rcases ht with rfl | rfl
 ·match f,hf with
  | [a,b],_=>match r,hr with
   | [c],_=>unfold mx;rw[Hu];rfl
 ·match f,hf with
  | [a,b,c],_=>match r,hr with
   | [d,e,g],_=>unfold mx;rw[Hv];rfl
theorem Ci.congr{n:Nat}{T:List aL}{tp:Nat→List Nat}{ps ps':Nat→Nat}(h:Ci n T tp ps)(e:∀i,i<n→ps i=ps' i):Ci n T tp ps' :=
 ⟨h.len,λi hi=>by rw[h.at_ i hi,e i hi],λi hi=>by rw[←e i hi];exact h.le i hi⟩
/-- the first word of a row is the first row's value -/
theorem QV{p t:Nat}[NeZero p](hp:fQ p)(ht:t≤2){M:List (List Nat)}(hM:qR p (t+1) (t+1) M)(hs:∀i,i<t+1→∀j,j<t+1→(M.getD i []).getD j 0=(M.getD j []).getD i 0){b:Nat}(hb:b+1<p):o p ((Rw p M (b+1)).getD 0 0)=bZ (P p (M.getD 0 [])) (o p (b+1)):=by
 rw[(pE hp hM (by omega) hb).2.2.2.2 0 (by omega),mK (n:=t+1) (by rw[hM.row 0 (by omega)];exact Nat.le_refl _)]
 exact bY λk hk=>by rw[hs k hk 0 (by omega)]
section
variable {w:ae}[NeZero w.S.P]{n t:Nat}
theorem yI(s:Sc w n t):y3 w n t (List.replicate n (List.replicate (t+1) 0)) 0:=by
 have hp:=s.sup
 have hg:∀i,i<n→(List.replicate n (List.replicate (t+1) 0)).getD i []=List.replicate (t+1) 0:=λi hi=>by
  rw[List.getD_eq_getElem?_getD,List.getElem?_replicate,if_pos hi];rfl
 refine⟨by simp,λi hi=>?_,λi hi _ j hj _=>?_,λy=>⟨[],by simp,λi hi _=>?_,λ_=>rfl⟩⟩
 ·rw[hg i hi]
  exact⟨by simp,λj hj=>by rw[Qk];exact hp.pos⟩
 ·rw[hg i hi,hg j hj,rE,rE]
 ·rw[hg i hi,rE];rfl
/-- where the check holds for the honest parties, the third number is the product -/
theorem Kr(s:Sc w n t){R:Nat→List (List Nat)}{z:Nat→Fin w.S.P}(A:∀j,j<t+3→y3 w n t (R j) (z j))(h:∀i,i<n→(((i:Nat):Int)+1)∉w.af→hv w.S.P t i (AO t λj=>(R j).getD i [])=true):z (2+t)=z 0*z 1:=by
 have hx:∀j,∃g:List (Fin w.S.P),j<t+3→g.length≤t+1∧(∀i,i<n→Hn w i→o w.S.P (((R j).getD i []).getD 0 0)=bZ g (o w.S.P (i+1)))∧bZ g 0=z j:=λj=>by
  by_cases hj:j<t+3
  ·obtain⟨g,g1,g2,g3⟩:=(A j hj).sp 0
   exact⟨g,λ_=>⟨g1,λi hi hh=>by rw[←g2 i hi hh,tc],g3 rfl⟩⟩
  ·exact⟨[],λh=>absurd h hj⟩
 have hG:=λj=>Classical.choose_spec (hx j)
 generalize hg:(λj=>Classical.choose (hx j))=g at *
 have hG:∀j,j<t+3→(g j).length≤t+1∧(∀i,i<n→Hn w i→o w.S.P (((R j).getD i []).getD 0 0)=bZ (g j) (o w.S.P (i+1)))∧bZ (g j) 0=z j:=λj=>by rw[←hg];exact hG j
 have hB:∀y,bZ (ot (xC (λ_=>(1:Fin w.S.P)) (λj=>List.replicate (j+1) 0++g (2+j)) t) (g (2+t))) y=sm t (λj=>y ^ (j+1)*bZ (g (2+j)) y)+bZ (g (2+t)) y:=λy=>by
  rw[ta,vN]
  refine congrArg (·+_) (bY λj hj=>?_)
  rw[vc,List.length_replicate]
  have:bZ (List.replicate (j+1) (0:Fin w.S.P)) y=0:=rO (λi=>by
   unfold cf
   rw[List.getD_eq_getElem?_getD,List.getElem?_replicate]
   split <;> rfl) y
  rw[this];grind
 have hlen:(ot (xC (λ_=>(1:Fin w.S.P)) (λj=>List.replicate (j+1) 0++g (2+j)) t) (g (2+t))).length≤2*t+1:=by
  rw[tu]
  have h1:(xC (λ_=>(1:Fin w.S.P)) (λj=>List.replicate (j+1) 0++g (2+j)) t).length≤2*t+1:=yu λk hk=>by
   rw[List.length_append,List.length_replicate]
   have:=(hG (2+k) (by omega)).1;omega
  have h2:=(hG (2+t) (by omega)).1
  omega
 have g0:=hG 0 (by omega)
 have g1:=hG 1 (by omega)
 have hmul:(nf (g 0) (g 1)).length≤2*t+1:=by
  by_cases h1:1≤(g 1).length
  ·have:=rk (g 0) (g 1) h1;omega
  ·have:=BU (g 0) (g 1)
   have:=g0.1;have:=s.t1;omega
 have hcf:=xN s (f:=nf (g 0) (g 1)) (g:=ot (xC (λ_=>(1:Fin w.S.P)) (λj=>List.replicate (j+1) 0++g (2+j)) t) (g (2+t))) hmul hlen (λi hi hc=>by
  have h1:=h i hi hc
  rw[Ar,decide_eq_true_iff] at h1
  rw[pT,hB,←g0.2.1 i hi (.inl hc),←g1.2.1 i hi (.inl hc),←(hG (2+t) (by omega)).2.1 i hi (.inl hc),←h1,bY λj hj=>by rw[←(hG (2+j) (by omega)).2.1 i hi (.inl hc)]]
  grind)
 have h0:=ly hcf 0
 rw[pT,hB,g0.2.2,g1.2.2,(hG (2+t) (by omega)).2.2,sg λj hj=>by show(0:Fin w.S.P) ^ (j+1)*_=0;grind] at h0
 rw[h0];grind
end
/-- a triple as it is given back -/
def Ft(res:aT)(out:Nat→Bool)(n t d k:Nat):bo :=
 if out d then⟨List.replicate n (List.replicate (t+1) 0),List.replicate n (List.replicate (t+1) 0),List.replicate n (List.replicate (t+1) 0)⟩ else⟨shr res n d (k*(t+3)),shr res n d (k*(t+3)+1),shr res n d (k*(t+3)+(t+2))⟩
def HT(res:aT)(out:Nat→Bool)(n t m:Nat):List (List bo):=(List.range n).map λd=>(List.range m).map (Ft res out n t d)
theorem Da{net:ai}{S:aF}{n t:Nat}{res:aT}(hN:S.N=(n:Int))(hT:S.T=(t:Int))(hn:n≤100)(ht:t≤100):iS ⟨net,S,res⟩=some (List.replicate n (List.replicate (t+1) 0)):=by
 have e1:((t:Nat):Int)+1=((t+1:Nat):Int):=by omega
 have e2:max 0 ((n:Nat):Int).toNat=n:=by omega
 unfold iS
 simp only
 rw[hN,e2,bJ (by omega),bS,Nat.sub_zero,fA (λ_=>List.replicate (t+1) 0) (λk l hk hl=>by
  unfold me
  simp only
  rw[hT,bi (by omega) (by omega),bS,e1,ci (by omega) (by omega) (by omega) (by omega),bS,Int.toNat_natCast,aM (by simp only[List.length_cons,List.length_nil];omega) (by simp only[List.length_cons,List.length_nil];omega),bS]),bS]
 congr 1
 rw[List.map_const',List.length_range]
theorem KS{net:ai}{r1:ae}{n t m:Nat}{res:aT}{x1:Int}{x2:List (List am)}{x3:List aL}{y1:Int}{y2:List (List am)}{out:List Bool}{p:Nat}(F:Fm p n t (m*(t+3)) res)(hN:r1.S.N=(n:Int))(hT:r1.S.T=(t:Int))(hn:n≤7)(ht:t≤2)(hm:m≤2)(ho:out.length=n) :
  cZ (λk2 (st:(List (List bo)))=>mF net ((m:Nat):Int) r1 (res,x1,x2,x3) (out,y1,y2) k2 st) n 1 []=some (HT res (λd=>out.getD d false) n t m):=by
 have hm10:m*(t+3)≤10:=Nat.le_trans (Nat.mul_le_mul hm (show t+3≤5 by omega)) (by omega)
 have e1:max 0 ((m:Nat):Int).toNat=m:=by omega
 have e2:((t+3:Nat):Int)-1=((t+2:Nat):Int):=by omega
 unfold HT
 refine B2 (λd=>(List.range m).map (Ft res (λd=>out.getD d false) n t d)) λd l hd hl=>?_
 unfold mF
 have e3:((d+1:Nat):Int)-1=((d:Nat):Int):=by omega
 rw[e1,bJ (by omega),bS,Nat.sub_zero,fA (Ft res (λd=>out.getD d false) n t d) (λk l hk hl=>by
  have z0:((0:Nat):Int)=((0:Nat):Int):=rfl
  unfold qb
  simp only
  rw[ru F hT (by omega) hm10 hd hk (show 0<t+3 by omega),bS,ru F hT (by omega) hm10 hd hk (show 1<t+3 by omega),bS,CS hT ht,bS,cb (by omega) (by omega),bS,e2,ru F hT (by omega) hm10 hd hk (show t+2<t+3 by omega),bS,cb (by omega) (by omega),bS,e3,aS false (by omega) (by omega),bS,Int.toNat_natCast]
  cases hb:out.getD d false
  ·rw[cF,aM (by simp only[List.length_cons,List.length_nil];omega) (by simp only[List.length_cons,List.length_nil];omega),bS]
   have e:Ft res (λd=>out.getD d false) n t d k=⟨shr res n d (k*(t+3)),shr res n d (k*(t+3)+1),shr res n d (k*(t+3)+(t+2))⟩:=by
    unfold Ft
    exact if_neg (by show ¬out.getD d false=true;rw[hb];decide)
   rw[e,Nat.add_zero]
  ·rw[cT,Da hN hT (by omega) (by omega),bS,aM (by simp only[List.length_cons,List.length_nil];omega) (by simp only[List.length_cons,List.length_nil];omega),bS]
   have e:Ft res (λd=>out.getD d false) n t d k=⟨List.replicate n (List.replicate (t+1) 0),List.replicate n (List.replicate (t+1) 0),List.replicate n (List.replicate (t+1) 0)⟩:=by
    unfold Ft
    exact if_pos hb
   rw[e]),bS,aM (by simp only[List.length_cons,List.length_nil];omega) (by simp only[List.length_cons,List.length_nil];omega),bS]
/-- Generate -/
theorem Gn {net:ai} {n t m B:Nat} [NeZero net.zw.S.P] (s:Sc net.zw n t) (ht:t=1 ∨ t=2) (hn:n≤7) (hm:0 < m) (hm2:m≤2) {tp:Nat→List Nat} {ps:Nat→Nat} (hts:Ci n net.ak tp ps) (h:∀ d,d < n→ps d+m*(hH t+(t+3)*(t*(t+1) / 2))≤(tp d).length) (hlt:∀ d,d < n→Lt net.zw.S.P (tp d)) (hV:VB n B net.av) (QU:B≤300) (hr:0≤net.ah∧net.ah≤700) :
    ∃ L out round views T,fP net ((m:Nat):Int)=some (L,out,round,views,T)∧L.length=n∧out.length=n∧(∀ d,d < n→(L.getD d []).length=m) ∧
      (∀ d,d < n→∀ k,k < m→∃ a b,y3 net.zw n t ((L.getD d []).getD k ⟨[],[],[]⟩).A a∧y3 net.zw n t ((L.getD d []).getD k ⟨[],[],[]⟩).B b∧y3 net.zw n t ((L.getD d []).getD k ⟨[],[],[]⟩).C (a*b)∧(out.getD d false=true→a=0∧b=0)∧(Hn net.zw d→a=o net.zw.S.P ((hA (tp d) (ps d) t k).getD 0 0)∧b=o net.zw.S.P ((hB (tp d) (ps d) t k).getD 0 0))) ∧
      (∀ d,d < n→Hn net.zw d→out.getD d false=false) ∧
      (∀ d,d < n→Hn net.zw d→∀ k,k < m→∀ i,i < n→Hn net.zw i→(((L.getD d []).getD k ⟨[],[],[]⟩).A).getD i []=Rw net.zw.S.P (mx (hA (tp d) (ps d) t k) (A4 ((tp d).drop (ps d+m*hH t)) t (k*(t+3)))) (i+1) ∧
        (((L.getD d []).getD k ⟨[],[],[]⟩).B).getD i []=Rw net.zw.S.P (mx (hB (tp d) (ps d) t k) (A4 ((tp d).drop (ps d+m*hH t)) t (k*(t+3)+1))) (i+1) ∧
        (((L.getD d []).getD k ⟨[],[],[]⟩).C).getD i []=Rw net.zw.S.P (mx (hC net.zw.S.P (tp d) (ps d) t k) (A4 ((tp d).drop (ps d+m*hH t)) t (k*(t+3)+(t+2)))) (i+1)) ∧
      Ci n T tp (fun i=>ps i+m*(hH t+(t+3)*(t*(t+1) / 2)))∧(round=net.ah+8 ∨ round=net.ah+9)∧(net.zw.aa=[]→round=net.ah+8):=by
  obtain ⟨w,round,v0,T0⟩:=net
  simp only at *
  have hp:=s.sup
  have hlt0:=hp.lt
  have h3:=s.t3
  have h13:=s.n13
  have ht2:t≤2:=by omega
  have hm10:m*(t+3)≤10:=Nat.le_trans (Nat.mul_le_mul hm2 (show t+3≤5 by omega)) (by omega)
  have e0:max 1 ((n:Int)+1).toNat=n+1:=by omega
  have hsplit:m*(hH t+(t+3)*(t*(t+1) / 2))=m*hH t+m*(t+3)*(t*(t+1) / 2):=by rw [Nat.mul_add,Nat.mul_assoc]
  have hd0:∀ d,d < n→ps d+m*hH t≤(tp d).length:=fun d hd=>by have:=h d hd;omega
  obtain ⟨T1,q,eT1,ql,qd,tT1⟩:=Cx (net:=⟨w,round,v0,T0⟩) (r1:=w) hp s.T ht hm2 hn hts hd0 hlt
  have hql:∀ d,d < n→(q.getD d []).length=m*(t+3):=fun d hd=>(qd d hd).len
  have Q:Qs w.S.P n t q (rem n tp fun i=>ps i+m*hH t):=by
    refine ⟨ql,by simp [rem],fun d hd=>?_,fun d hd=>?_,fun d hd k hk=>?_⟩
    · rw [hql d hd,vU hd,List.length_drop]
      have:=h d hd
      exact ⟨hm10,by omega⟩
    · rw [vU hd,List.length_drop]
      refine ⟨by have:=(hts.le d hd).2;omega,fun i hi=>?_⟩
      rw [List.getD_eq_getElem?_getD,List.getElem?_drop,← List.getD_eq_getElem?_getD]
      exact (hlt d hd).get hp.pos _
    · rw [hql d hd] at hk
      exact (qd d hd).ww k hk
  obtain ⟨res,v1,T2,eS,tT2,R,hv1,C,_⟩:=HE (net:=⟨w,round,v0,T1⟩) s ht hn Q tT1 hV (by omega) ⟨hr.1,by show round≤800;omega⟩
  simp only at eS R hv1 C
  have F:=Pg.fm R hql
  obtain ⟨all,v2,eC,hsay,hv2⟩:=xy (net:=⟨w,round+7,v1,T2⟩) s F hn ht2 hm hm2 hv1 (by omega) ⟨by show 0≤round+7;omega,by show round+7≤1000;omega⟩
  simp only at eC hsay
  generalize hcl:Fp n m (fun d=>res.be.getD d false) all n=cl at *
  have hmem:∀ c,c ∈ cl ↔ c.1 < n∧c.2.1 < n∧c.2.2 < m∧(all.getD c.1 []).getD (c.2.1*m+c.2.2) 0≠0∧res.be.getD c.2.1 false=false:=fun c=>by rw [← hcl];exact IA hm
  have hlen:cl.length≤98:=by
    rw [← hcl]
    refine Nat.le_trans z7 (Nat.le_trans (Nat.mul_le_mul hn (Nat.mul_le_mul hn hm2)) (by omega))
  have hex:∀ d k b,∃ f:List Nat,d < n→k < m*(t+3)→f.length≤t+1∧∀ i,i < n→Hn w i→bZ (P w.S.P (yE res i d k)) (o w.S.P (b+1))=bZ (P w.S.P f) (o w.S.P (i+1)):=fun d k b=>by
    by_cases g:d < n∧k < m*(t+3)
    · obtain ⟨f,_,f2,f3⟩:=C.sp d g.1 k (by rw [hql d g.1];exact g.2) (o w.S.P (b+1))
      exact ⟨f,fun _ _=>⟨f2,f3⟩⟩
    · exact ⟨[],fun h1 h2=>absurd ⟨h1,h2⟩ g⟩
  have hF:=fun d k b=>Classical.choose_spec (hex d k b)
  generalize hF0:(fun d k b=>Classical.choose (hex d k b))=F0 at *
  have hF:∀ d k b,d < n→k < m*(t+3)→(F0 d k b).length≤t+1∧∀ i,i < n→Hn w i→bZ (P w.S.P (yE res i d k)) (o w.S.P (b+1))=bZ (P w.S.P (F0 d k b)) (o w.S.P (i+1)):=fun d k b=>by
    rw [← hF0];exact hF d k b
  obtain ⟨out,round3,v3,eJ,j1,j2,j3,j4,j5⟩:=CM (net:=⟨w,round+7+1,v2,T2⟩) (F0:=F0) s F hn ht2 hm2 hlen (fun c hc=>⟨((hmem c).1 hc).1,((hmem c).1 hc).2.1,((hmem c).1 hc).2.2.1⟩) hv2 (by omega) ⟨by show 0≤round+7+1;omega,by show round+7+1≤1000;omega⟩
    (fun d hd k hk b hb=>⟨(hF d k b hd hk).1,fun i hi hc=>(hF d k b hd hk).2 i hi (.inl hc)⟩)
  simp only at eJ j4 j5
  have hix:∀ k,k < m→∀ j,j < t+3→k*(t+3)+j < m*(t+3):=fun k hk j hj=>by
    have:k*(t+3)+(t+3)≤m*(t+3):=by rw [← Nat.succ_mul];exact Nat.mul_le_mul_right (t+3) hk
    omega
  -- an honest dealer's matrices
  have hM:=fun d (hd:d < n) k (hk:k < m*(t+3))=>xZ hp.pos ht Q hd (show k < (q.getD d []).length by rw [hql d hd];exact hk)
  have hMe:∀ d,d < n→∀ k,k < m*(t+3)→(Sm q (rem n tp fun i=>ps i+m*hH t) t d).getD k []=mx ((q.getD d []).getD k []) (A4 ((tp d).drop (ps d+m*hH t)) t k):=fun d hd k hk=>by
    rw [zS (show k < (q.getD d []).length by rw [hql d hd];exact hk),vU hd]
  have hrow0:∀ d,d < n→∀ k,k < m*(t+3)→((Sm q (rem n tp fun i=>ps i+m*hH t) t d).getD k []).getD 0 []=(q.getD d []).getD k []:=fun d hd k hk=>by
    have hk':k < (q.getD d []).length:=by rw [hql d hd];exact hk
    rw [zS hk',Kh ht (Q.w d hd k hk').1 (AG (Q.many d hd).2 hk')]
  -- the identity of the polynomials that an honest dealer draws
  have hid:∀ d,d < n→∀ k,k < m→∀ x,bZ (P w.S.P ((q.getD d []).getD (k*(t+3)) [])) x*bZ (P w.S.P ((q.getD d []).getD (k*(t+3)+1) [])) x - sm t (fun j=>x ^ (j+1)*bZ (P w.S.P ((q.getD d []).getD (k*(t+3)+(2+j)) [])) x)=bZ (P w.S.P ((q.getD d []).getD (k*(t+3)+(2+t)) [])) x:=fun d hd k hk x=>by
    obtain ⟨f1,f2,f3⟩:=(qd d hd).pf k hk
    rw [f1,f2,f3.eq x,← Nat.add_assoc,bY (f:=fun j=>x ^ (j+1)*bZ (P w.S.P ((q.getD d []).getD (k*(t+3)+(2+j)) [])) x) (g:=fun j=>x ^ (j+1)*bZ (P w.S.P ((q.getD d []).getD (k*(t+3)+2+j) [])) x) fun j _=>by rw [Nat.add_assoc]]
    grind
  -- honest parties see an honest dealer's rows
  have hown:∀ d,d < n→Hn w d→∀ i,i < n→Hn w i→∀ k,k < m→hv w.S.P t i (AO t fun j=>yE res i d (k*(t+3)+j))=true:=fun d hd hhd i hi hhi k hk=>by
    have hr:∀ j,j < t+3→o w.S.P ((yE res i d (k*(t+3)+j)).getD 0 0)=bZ (P w.S.P ((q.getD d []).getD (k*(t+3)+j) [])) (o w.S.P (i+1)):=fun j hj=>by
      have hk':=hix k hk j hj
      have:=R.ok d hd hhd i hi hhi (k*(t+3)+j) (by rw [hql d hd];exact hk')
      unfold yE
      rw [this,QV hp ht2 (hM d hd _ hk').2.1 (hM d hd _ hk').2.2 (by omega),hrow0 d hd _ hk']
    rw [Ar,decide_eq_true_iff,hr 0 (by omega),hr 1 (by omega),hr (2+t) (by omega),bY fun j hj=>by rw [hr (2+j) (by omega)],Nat.add_zero]
    exact hid d hd k hk _
  -- honest dealers are not disqualified
  have hhon:∀ d,d < n→Hn w d→out.getD d false=false:=fun d hd hh=>by
    cases hx:out.getD d false
    · rfl
    · exfalso
      rcases (j2 d hd).1 hx with h1 | ⟨c,hc,hcd,hb⟩
      · rw [R.nd d hd hh] at h1;cases h1
      · obtain ⟨c1,c2,c3,_,_⟩:=(hmem c).1 hc
        have hop:∀ j,j < t+3→o w.S.P ((F0 d (c.2.2*(t+3)+j) c.1).getD 0 0)=bZ (P w.S.P ((q.getD d []).getD (c.2.2*(t+3)+j) [])) (o w.S.P (c.1+1)):=fun j hj=>by
          have hk':=hix _ c3 j hj
          have f1:=hF d (c.2.2*(t+3)+j) c.1 hd hk'
          rw [← hrow0 d hd _ hk']
          exact EM s ht2 (hM d hd _ hk').2.1 (hM d hd _ hk').2.2 c1 f1.1 (fun i hi hci=>by
            rw [← f1.2 i hi (.inl hci)]
            have:=R.ok d hd hh i hi (.inl hci) (c.2.2*(t+3)+j) (by rw [hql d hd];exact hk')
            unfold yE
            rw [this])
        apply hb
        rw [hcd,show c.2.2*(t+3)=c.2.2*(t+3)+0 from rfl,hop 0 (by omega),Nat.add_zero,hop 1 (by omega),hop (2+t) (by omega),bY fun j hj=>by rw [hop (2+j) (by omega)],Nat.add_zero]
        exact hid d hd _ c3 _
  -- what dealers that are left have dealt
  have hstd:∀ d,d < n→∀ k,k < m→∃ z:Nat→Fin w.S.P,∀ j,j < t+3→y3 w n t (shr res n d (k*(t+3)+j)) (z j):=fun d hd k hk=>by
    have h1:∀ j,∃ z,j < t+3→y3 w n t (shr res n d (k*(t+3)+j)) z:=fun j=>by
      by_cases hj:j < t+3
      · obtain ⟨z,Z⟩:=Com.std s C F hql hd (hix k hk j hj)
        exact ⟨z,fun _=>Z⟩
      · exact ⟨0,fun h=>absurd h hj⟩
    exact ⟨fun j=>Classical.choose (h1 j),fun j hj=>Classical.choose_spec (h1 j) hj⟩
  have hprod:∀ d,d < n→out.getD d false=false→∀ k,k < m→∀ z:Nat→Fin w.S.P,(∀ j,j < t+3→y3 w n t (shr res n d (k*(t+3)+j)) (z j))→z (2+t)=z 0*z 1:=fun d hd ho k hk z Z=>by
    have hnot:¬ (res.be.getD d false=true ∨ ∃ c ∈ cl,c.2.1=d∧Bd w.S.P t F0 c):=fun hh=>by
      rw [(j2 d hd).2 hh] at ho;cases ho
    refine Kr s (R:=fun j=>shr res n d (k*(t+3)+j)) Z fun i hi hc=>?_
    have hsv:(AO t fun j=>(shr res n d (k*(t+3)+j)).getD i [])=AO t fun j=>yE res i d (k*(t+3)+j):=by
      unfold AO
      refine List.map_congr_left fun j _=>?_
      show ((shr res n d (k*(t+3)+j)).getD i []).getD 0 0=(yE res i d (k*(t+3)+j)).getD 0 0
      rw [lJ hi]
    show hv w.S.P t i (AO t fun j=>(shr res n d (k*(t+3)+j)).getD i [])=true
    rw [hsv]
    cases hh:hv w.S.P t i (AO t fun j=>yE res i d (k*(t+3)+j))
    · exfalso
      have hdq:res.be.getD d false=false:=by
        cases hx:res.be.getD d false
        · rfl
        · exact absurd (.inl hx) hnot
      have hdm:d*m+k < n*m:=by
        have:d*m+m≤n*m:=by rw [← Nat.succ_mul];exact Nat.mul_le_mul_right m hd
        omega
      have q1:(d*m+k) / m=d:=by rw [Nat.mul_comm,Nat.mul_add_div hm,Nat.div_eq_of_lt hk,Nat.add_zero]
      have q2:(d*m+k) % m=k:=by rw [Nat.mul_comm,Nat.mul_add_mod,Nat.mod_eq_of_lt hk]
      have hin:(i,d,k) ∈ cl:=(hmem _).2 ⟨hi,hd,hk,by
        show (all.getD i []).getD (d*m+k) 0≠0
        rw [hsay i hi (.inl hc)]
        unfold vn vW
        rw [jF hi,jF hdm,q1,q2,hh]
        decide,hdq⟩
      apply hnot
      refine .inr ⟨_,hin,rfl,fun hb=>?_⟩
      simp only at hb
      have ho:∀ j,j < t+3→o w.S.P ((F0 d (k*(t+3)+j) i).getD 0 0)=o w.S.P ((yE res i d (k*(t+3)+j)).getD 0 0):=fun j hj=>by
        have f1:=hF d (k*(t+3)+j) i hd (hix k hk j hj)
        have:=G2 s (Z j hj) hi hc f1.1 (fun i' hi' hc'=>by rw [lJ hi'];exact f1.2 i' hi' (.inl hc'))
        rw [this,lJ hi]
      rw [Ar,decide_eq_false_iff_not] at hh
      apply hh
      rw [show k*(t+3)=k*(t+3)+0 from rfl,ho 0 (by omega),Nat.add_zero,ho 1 (by omega),ho (2+t) (by omega),bY fun j hj=>by rw [ho (2+j) (by omega)]] at hb
      exact hb
    · rfl
  unfold fP bp
  rw [bS,eF (by omega),cF,s.N,e0,bJ (by omega),bS,Nat.add_sub_cancel,eT1,bS]
  simp only
  rw [eS,bS]
  simp only
  rw [eC,bS]
  simp only
  rw [eJ,bS,KS F s.N s.T hn ht2 hm2 j1,bS]
  have hL:∀ d,d < n→∀ k,k < m→((HT res (fun d=>out.getD d false) n t m).getD d []).getD k ⟨[],[],[]⟩=Ft res (fun d=>out.getD d false) n t d k:=fun d hd k hk=>by
    unfold HT
    rw [jF hd,jF hk]
  have hF2:∀ d k,out.getD d false=false→Ft res (fun d=>out.getD d false) n t d k=⟨shr res n d (k*(t+3)),shr res n d (k*(t+3)+1),shr res n d (k*(t+3)+(t+2))⟩:=fun d k ho=>by
    unfold Ft
    exact if_neg (by show ¬ out.getD d false=true;rw [ho];decide)
  have hT2:∀ d k,out.getD d false=true→Ft res (fun d=>out.getD d false) n t d k=⟨List.replicate n (List.replicate (t+1) 0),List.replicate n (List.replicate (t+1) 0),List.replicate n (List.replicate (t+1) 0)⟩:=fun d k ho=>by
    unfold Ft
    exact if_pos ho
  refine ⟨_,out,round3,v3,T2,rfl,kM,j1,fun d hd=>by unfold HT;rw [jF hd,kM],fun d hd k hk=>?_,hhon,fun d hd hh k hk i hi hhi=>?_,tT2.congr fun i hi=>?_,(by rcases j4 with h | h <;> omega),fun hdev=>?_⟩
  · rw [hL d hd k hk]
    cases ho:out.getD d false
    · obtain ⟨z,Z⟩:=hstd d hd k hk
      rw [hF2 d k ho]
      have hz:=hprod d hd ho k hk z Z
      refine ⟨z 0,z 1,Z 0 (by omega),Z 1 (by omega),?_,(fun h=>by cases h),fun hh=>?_⟩
      · rw [← hz,Nat.add_comm t 2];exact Z (2+t) (by omega)
      · have hsec:∀ j,j < t+3→z j=o w.S.P (((q.getD d []).getD (k*(t+3)+j) []).getD 0 0):=fun j hj=>by
          have hk':=hix k hk j hj
          obtain ⟨g,g1,g2,g3⟩:=(Z j hj).sp 0
          have hM0:=hrow0 d hd _ hk'
          have hcf:=xN s (f:=g) (g:=P w.S.P (((Sm q (rem n tp fun i=>ps i+m*hH t) t d).getD (k*(t+3)+j) []).getD 0 [])) (by omega) (by rw [mG,(hM d hd _ hk').2.1.row 0 (by omega)];omega) (fun i hi hc=>by
            rw [← g2 i hi (.inl hc),lJ hi,tc,← QV hp ht2 (hM d hd _ hk').2.1 (hM d hd _ hk').2.2 (by omega)]
            have:=R.ok d hd hh i hi (.inl hc) (k*(t+3)+j) (by rw [hql d hd];exact hk')
            unfold yE
            rw [this])
          have h0:=ly hcf 0
          rw [g3 rfl,tc,hM0] at h0
          exact h0
        obtain ⟨f1,f2,_⟩:=(qd d hd).pf k hk
        exact ⟨by rw [hsec 0 (by omega),Nat.add_zero,f1],by rw [hsec 1 (by omega),f2]⟩
    · rw [hT2 d k ho]
      refine ⟨0,0,yI s,yI s,?_,fun _=>⟨rfl,rfl⟩,fun hh=>?_⟩
      · have:(0:Fin w.S.P)*0=0:=by grind
        rw [this];exact yI s
      · rw [hhon d hd hh] at ho;cases ho
  · rw [hL d hd k hk,hF2 d k (hhon d hd hh)]
    have hr:∀ j,j < t+3→(shr res n d (k*(t+3)+j)).getD i []=Rw w.S.P (mx ((q.getD d []).getD (k*(t+3)+j) []) (A4 ((tp d).drop (ps d+m*hH t)) t (k*(t+3)+j))) (i+1):=fun j hj=>by
      have hk':=hix k hk j hj
      rw [lJ hi,← hMe d hd _ hk']
      exact R.ok d hd hh i hi hhi _ (by rw [hql d hd];exact hk')
    obtain ⟨f1,f2,_⟩:=(qd d hd).pf k hk
    have f3:=(qd d hd).cv k hk
    have r0:=hr 0 (by omega)
    have r1:=hr 1 (by omega)
    have r2:=hr (t+2) (by omega)
    rw [Nat.add_zero,f1] at r0
    rw [f2] at r1
    rw [show k*(t+3)+(t+2)=k*(t+3)+2+t by omega,f3] at r2
    exact ⟨r0,r1,by rw [show k*(t+3)+(t+2)=k*(t+3)+2+t by omega];exact r2⟩
  · rw [hql i hi,hsplit];omega
  · have:cl=[]:=by
      rcases cl with _ | ⟨c,l⟩
      · rfl
      · exfalso
        obtain ⟨c1,c2,c3,c4,_⟩:=(hmem c).1 (List.mem_cons_self ..)
        apply c4
        have hdm:c.2.1*m+c.2.2 < n*m:=by
          have:c.2.1*m+m≤n*m:=by rw [← Nat.succ_mul];exact Nat.mul_le_mul_right m c2
          omega
        have q1:(c.2.1*m+c.2.2) / m=c.2.1:=by rw [Nat.mul_comm,Nat.mul_add_div hm,Nat.div_eq_of_lt c3,Nat.add_zero]
        have q2:(c.2.1*m+c.2.2) % m=c.2.2:=by rw [Nat.mul_comm,Nat.mul_add_mod,Nat.mod_eq_of_lt c3]
        rw [hsay _ c1 (.inr hdev)]
        unfold vn vW
        rw [jF c1,jF hdm,q1,q2,hown _ c2 (.inr hdev) _ c1 (.inr hdev) _ c3]
        rfl
    rw [j5 this];omega
end Pu

/- Plain laws of chapter 22: fair scenarios, what the laws look at. -/
set_option linter.unusedVariables false
namespace Pu
open Gw Gl Sp
theorem vk{body:Nat→Unit→Option (Out Unit Bool)}{a n:Nat}(h:∀k,a≤k→k<a+n→body k ()=some (.go ())):qg body n a ()=some (.go ()):=by
 obtain⟨o,e,ho⟩:=im (body:=body) (λk _=>True) (λb=>False) (rem:=n) (k:=a) (s:=()) trivial (λk s h1 hk hI=>⟨_,h k h1 hk,trivial⟩)
 cases o with
 | fin b=>exact ho.elim
 | go u=>exact e
theorem B1{body:Nat→Unit→Option (Out Unit Bool)}{n:Nat}(G:Nat→Prop)(h:∀k,k<n→body k ()=some (.fin false)∨(body k ()=some (.go ())∧G k)):qg body n 0 ()=some (.fin false)∨(qg body n 0 ()=some (.go ())∧∀k,k<n→G k):=by
 obtain⟨o,e,ho⟩:=im (body:=body) (λk _=>∀j,j<k→G j) (λb=>b=false) (rem:=n) (k:=0) (s:=()) (λj hj=>by omega) (λk s _ hk hI=>by
  rcases h k (by omega) with e | ⟨e,hg⟩
  ·exact⟨_,e,rfl⟩
  ·refine⟨_,e,λj hj=>?_⟩
   by_cases g:j=k
   ·subst g;exact hg
   ·exact hI j (by omega))
 cases o with
 | fin b=>exact .inl (by rw[e,show b=false from ho])
 | go u=>exact .inr ⟨e,λk hk=>ho k (by omega)⟩
theorem PR:mz=some true:=by decide +kernel
theorem J7{l:List Int}{k:Int}:mp l k=some (decide (k∈l)):=by
 unfold mp
 rw[Nat.sub_zero]
 obtain⟨o,e,ho⟩:=im (body:=λk1 (st:Unit)=>mB l k k1) (λj _=>∀i,i<j→l.getD i 0≠k) (λr=>r=true∧k∈l) (rem:=l.length) (k:=0) (s:=()) (λi hi=>by omega) (λj _ _ hj h=>by
  unfold mB
  rw[ix 0 (by omega),bS]
  by_cases g:l.getD j 0=k
  ·rw[eT g,cT];exact⟨_,rfl,rfl,by rw[←g];exact getD_in (by omega)⟩
  ·rw[eF g,cF]
   refine⟨_,rfl,λi hi=>?_⟩
   by_cases q:i=j
   ·subst q;exact g
   ·exact h i (by omega))
 rw[e,bS]
 cases o with
 | fin r=>rw[oF,ho.1,dT ho.2]
 | go u =>
  rw[oG,dF (λhm=>by
   obtain⟨i,hi,h2⟩:=List.getElem_of_mem hm
   exact ho i (by omega) (by rw[List.getD_eq_getElem?_getD,List.getElem?_eq_getElem hi];exact h2))]
theorem P5{α β:Type}{l:List α}{f:α→β}{q:Nat}(d:α)(h:q<l.length):(l.map f)[q]?=some (f (l.getD q d)):=by
 rw[List.getElem?_map,ix d h];rfl
theorem CO{w:ae}{q:Nat}(hK:∀x∈w.aa,x.K<18446744073709551616):∃b,kj w ((q:Nat):Int) ((8:Nat):Int) ((120:Nat):Int)=some b∧(b=true→∃n t,Va w n t∧dB w=some true∧n≤q):=by
 unfold kj
 by_cases g0:w.S.N>((q:Nat):Int)
 ·rw[dT g0,cT,bS,cT];exact⟨_,rfl,λh=>by cases h⟩
 ·rw[dF g0,cF]
  by_cases g1:((w.aa.length:Nat):Int)>((8:Nat):Int)
  ·rw[dT g1,cT,bS,cT];exact⟨_,rfl,λh=>by cases h⟩
  ·rw[dF g1,cF]
   by_cases g2:((w.ay.length:Nat):Int)>((q:Nat):Int)
   ·rw[dT g2,bS,cT];exact⟨_,rfl,λh=>by cases h⟩
   ·rw[dF g2,bS,cF,Nat.sub_zero]
    rcases B1 (body:=λk1 (st:Unit)=>kA w ((120:Nat):Int) k1) (n:=w.ay.length) (λi=>(w.ay.getD i []).length≤120) (λk hk=>by
     unfold kA
     rw[ix [] hk,bS]
     by_cases g:(w.ay.getD k []).length≤120
     ·rw[dF (by omega),cF];exact .inr ⟨rfl,g⟩
     ·rw[dT (by omega),cT];exact .inl rfl) with e | ⟨e,ho⟩
    ·rw[e,bS,oF];exact⟨_,rfl,λh=>by cases h⟩
    ·rw[e,bS,oG]
     obtain⟨b,eb,hb⟩:=Ky (w:=w)
     rw[eb,bS]
     refine⟨_,rfl,λhbt=>?_⟩
     subst hbt
     obtain⟨n,t,par,c1,c2,c3,c4,c5,c6⟩:=hb rfl
     have hd:∀x∈w.aa,Dv w.S x:=λx hx=>by
      obtain⟨i,hi,rfl⟩:=List.getElem_of_mem hx
      have:=c5 i hi
      rw[List.getD_eq_getElem?_getD,List.getElem?_eq_getElem hi] at this
      exact this
     have hN:=par.N
     refine⟨n,t,{ sup:=par.sup,N:=par.N,T:=par.T,n4:=par.n4,n13:=par.n13,t1:=par.t1,t3:=par.t3,cl:=c1,cr:=c2,dl:=by omega,dv:=λx hx=>?_,ord:=c3,tl:=c4,tb:=λi hi=>c6 i (by omega),ts:=λi hi=>by have:=ho i (by omega);omega,full:=λx hx=>?_ },rfl,by omega⟩
     ·obtain⟨d1,d2,d3,d4,d5,d6,d7,d8,d9,d10,d11,d12⟩:=hd x hx
      rw[par.N] at d5 d11
      exact⟨d4,d5,d2,d3,d10,d11,d12,hK x hx⟩
     ·obtain⟨d1,d2,d3,d4,d5,d6,d7,d8,d9,d10,d11,d12⟩:=hd x hx
      rw[par.N] at d7
      exact⟨d1,d6,d7,d8,d9⟩
theorem GD{s:aF}{t m:Nat}(hT:s.T=((t:Nat):Int))(ht:t=1∨t=2)(hm:m≤2):li s ((m:Nat):Int)=some ((m*(hH t+(t+3)*(t*(t+1) / 2)):Nat):Int)∧qc s ((m:Nat):Int)=some ((m*(hH t+(t+3)*(t*(t+1) / 2)):Nat):Int):=by
 obtain⟨P,N,T⟩:=s
 simp only at hT
 subst hT
 have:m=0∨m=1∨m=2:=by omega
 rcases ht with rfl | rfl <;> rcases this with rfl | rfl | rfl <;> exact⟨rfl,rfl⟩
theorem Qo{m:Nat}(h:m≤2):KQ ((m:Nat):Int)=((m:Nat):Int):=by
 have:m=0∨m=1∨m=2:=by omega
 rcases this with rfl | rfl | rfl <;> decide +kernel
theorem EA{w:ae}{m q:Nat}(hK:∀x∈w.aa,x.K<18446744073709551616)(hq:q≤7):∃b,kL w m ((q:Nat):Int) 2=some b∧(b=true→∃n t,Va w n t∧dB w=some true∧n≤q∧(t=1∨t=2)∧m≤2∧KQ ((m:Nat):Int)=((m:Nat):Int)∧∀i,i<n→m*(hH t+(t+3)*(t*(t+1) / 2))≤(w.ay.getD i []).length):=by
 unfold kL
 by_cases g0:m≤2
 ·rw[dT (by omega),cT]
  obtain⟨b,eb,hb⟩:=CO (w:=w) (q:=q) hK
  rw[eb,bS]
  cases b
  ·rw[cF];exact⟨_,rfl,λh=>by cases h⟩
  ·obtain⟨n,t,v,hv,hn⟩:=hb rfl
   have ht:t=1∨t=2:=by have:=v.t1;have:=v.t3;omega
   have hu:KQ ((m:Nat):Int)=((m:Nat):Int):=Qo g0
   have hl:=(GD (s:=w.S) v.T ht g0).1
   generalize hneed:m*(hH t+(t+3)*(t*(t+1) / 2))=need at hl
   rw[cT]
   generalize KQ ((m:Nat):Int)=z at hu
   subst hu
   rw[bS,hl,bS]
   unfold nk
   rw[v.tl,Nat.sub_zero]
   rcases B1 (body:=λk1 (st:Unit)=>lh w ((need:Nat):Int) k1) (n:=n) (λi=>need≤(w.ay.getD i []).length) (λi hi=>by
    unfold lh
    rw[ix [] (by rw[v.tl];exact hi),bS]
    by_cases g:need≤(w.ay.getD i []).length
    ·rw[dF (by omega),cF];exact .inr ⟨rfl,g⟩
    ·rw[dT (by omega),cT];exact .inl rfl) with e | ⟨e,h⟩
   ·rw[e,bS,oF,bS];exact⟨_,rfl,λh=>by cases h⟩
   ·rw[e,bS,oG,bS];exact⟨_,rfl,λ_=>⟨n,t,v,hv,hn,ht,g0,rfl,by rw[hneed];exact h⟩⟩
 ·rw[dF (by omega),cF];exact⟨_,rfl,λh=>by cases h⟩
section
variable {w:ae}{n t:Nat}
theorem EF(s:Sc w n t):fw w.S w.af=some ((vg w n).map λi=>((i:Nat):Int)+1):=by
 have h13:=s.n13
 unfold fw
 have hm:max 1 (w.S.N+1).toNat=n+1:=by rw[s.N];omega
 rw[hm,bJ (by omega),bS,Nat.add_sub_cancel]
 obtain⟨h,e,j,hj,h2⟩:=bm (body:=λk1 (st:(List Int))=>gy w.af k1 st) (rem:=n) (k:=1) (s:=([]:List Int))
  (λk h=>∃j,k=j+1∧h=(vg w j).map λi=>((i:Nat):Int)+1) ⟨0,rfl,rfl⟩ (λk h h1 hk ⟨j,hj,h2⟩=>by
   subst hj
   have hl:h.length≤j:=by rw[h2,List.length_map];exact Gx
   have ej:((j+1:Nat):Int)=((j:Nat):Int)+1:=by omega
   unfold gy
   rw[J7,bS,ej]
   by_cases g:(((j:Nat):Int)+1)∈w.af
   ·rw[dT g,nT,cF]
    refine⟨_,rfl,j+1,rfl,?_⟩
    rw[h2,BG,if_neg (λh=>h g),List.append_nil]
   ·rw[dF g,nF,cT,aM (by simp only[List.length_cons,List.length_nil];omega) (by simp only[List.length_cons,List.length_nil];omega),bS]
    refine⟨_,rfl,j+1,rfl,?_⟩
    rw[h2,BG,if_pos g,List.map_append];rfl)
 have:j=n:=by omega
 subst this
 rw[e,bS,h2]
variable [NeZero w.S.P]
theorem uS(x:Fin w.S.P):o w.S.P x.val=x:=Fin.ext (Nat.mod_eq_of_lt x.isLt)
/-- the secret of the honest rows -/
theorem xl(s:Sc w n t)(hn:n≤7){a:List (List Nat)}{c:Fin w.S.P}(A:y3 w n t a c):dL w a=some (c.val,0):=by
 have hp:=s.sup
 have hlt:=hp.lt
 have hcnt:=Aq s
 have hle:(vg w n).length≤n:=Gx
 have ht3:=s.t3
 have hl:=A.l
 have hmem:=λi (hi:i<(vg w n).length)=>un hi
 unfold dL
 rw[EF s,bS,List.length_map,Nat.sub_zero,fA (λq=>(⟨(vg w n).getD q 0+1,(a.getD ((vg w n).getD q 0) []).getD 0 0⟩:aH)) (λq l hq hl=>by
  have hq1:=(hmem q hq).1
  have e3:(((vg w n).getD q 0:Nat):Int)+1-1=(((vg w n).getD q 0:Nat):Int):=by omega
  have hu:sE ((((vg w n).getD q 0:Nat):Int)+1)=(vg w n).getD q 0+1:=by unfold sE;omega
  unfold ni
  rw[P5 0 hq,bS,hu,bS,cb (by omega) (by omega),bS,e3,aS [] (by omega) (by omega),bS,Int.toNat_natCast,ix 0 (by rw[(A.r _ hq1).1];omega),bS,aM (by simp only[List.length_cons,List.length_nil];omega) (by simp only[List.length_cons,List.length_nil];omega),bS]),bS,s.T]
 obtain⟨g,g1,g2,g3⟩:=A.sp 0
 have hf:P w.S.P (g.map Fin.val)=g:=by
  unfold P
  rw[List.map_map]
  exact(List.map_congr_left (λx _=>uS x)).trans (List.map_id ..)
 have hv:∀i,(g.map Fin.val).getD i 0<w.S.P:=λi=>by
  by_cases h:i<(g.map Fin.val).length
  ·have:=getD_in (d:=0) h
   obtain⟨x,_,e⟩:=List.mem_map.1 this
   rw[←e];exact x.isLt
  ·rw[ML (by omega)];exact hp.pos
 rw[Hq hp (f:=g.map Fin.val) (X:=λi=>(vg w n).getD i 0+1) (Y:=λi=>(a.getD ((vg w n).getD i 0) []).getD 0 0) ⟨λi hi=>by rw[List.length_map,List.length_range] at hi;rw[List.getElem?_map,List.getElem?_range hi];rfl,λi hi=>by
   rw[List.length_map,List.length_range] at hi
   have:=(hmem i hi).1
   exact⟨Nat.succ_pos _,by show _+1<_;omega,Lt.get hp.pos (A.r _ this).2 0⟩,λi j hi hj hij e=>by
   rw[List.length_map,List.length_range] at hi hj
   have:=Gy hi hj hij
   have e:(vg w n).getD i 0+1=(vg w n).getD j 0+1:=e
   omega⟩ (by rw[List.length_map,List.length_range];omega) (by rw[List.length_map,List.length_range];omega) (λi _=>hv i) (by rw[List.length_map];exact g1) (λi hi=>by
   rw[List.length_map,List.length_range] at hi
   have h:=hmem i hi
   rw[hf,←tc]
   exact g2 _ h.1 (.inl h.2)),bS]
 have h0:(g.map Fin.val).getD 0 0=c.val:=by
  refine pZ (hv 0) c.isLt ?_
  rw[←tc,hf,g3 rfl,uS]
 rw[h0]
theorem wS(s:Sc w n t){a:List (List Nat)}{c:Fin w.S.P}(A:y3 w n t a c):gT w.S a=some true:=by
 have h13:=s.n13
 have h3:=s.t3
 have hl:=A.l
 have e0:max 0 ((n:Int)).toNat=n:=by omega
 unfold gT mC
 rw[s.N,s.T,qF (by omega),cF,e0,bJ (by omega),bS,Nat.sub_zero,vk (λi _ hi=>by
  unfold ow
  rw[ix [] (by omega),bS,s.T,bi (by omega) (by omega),bS,(A.r i (by omega)).1,qF (by omega),cF]),bS,oG,bi (by omega) (by omega),bS,hl,Nat.sub_zero,vk (λi _ hi=>by
  have h:=A.r i (by omega)
  unfold nD
  rw[ix [] (by omega),bS,h.1,dF (by omega),cF,Nat.sub_zero,vk (λj _ hj=>by
   unfold nE
   have:=h.2 j (by rw[h.1];omega)
   rw[ix 0 (by rw[h.1];omega),bS,dF (by omega),cF]),bS,oG]),bS,oG,bS]
theorem ED(s:Sc w n t){L:List (List bo)}{m:Nat}(hm:m≤2)(hl:L.length=n)(hr:∀d,d<n→(L.getD d []).length=m)(hs:∀d,d<n→∀k,k<m→∃a b c,y3 w n t ((L.getD d []).getD k ⟨[],[],[]⟩).A a∧y3 w n t ((L.getD d []).getD k ⟨[],[],[]⟩).B b∧y3 w n t ((L.getD d []).getD k ⟨[],[],[]⟩).C c):gS w.S L ((m:Nat):Int)=some true:=by
 have h13:=s.n13
 have e0:max 0 ((n:Int)).toNat=n:=by omega
 have e1:max 0 ((m:Int)).toNat=m:=by omega
 unfold gS
 rw[s.N,qF (by omega),cF,e0,bJ (by omega),bS,Nat.sub_zero,vk (λd _ hd=>by
  have hd:d<n:=by omega
  unfold ou
  rw[ix [] (by omega),bS,hr d hd,qF rfl,cF,e1,bJ (by omega),bS,Nat.sub_zero,vk (λk _ hk=>by
   obtain⟨a,b,c,A,B,C⟩:=hs d hd k (by omega)
   unfold ov
   rw[ix ⟨[],[],[]⟩ (by rw[hr d hd];omega),bS,wS s A,bS,nT,cF,wS s B,bS,nT,cF,wS s C,bS,nT,cF]),bS,oG]),bS,oG]
end
/-- what Generate leaves -/
structure Q0(w:ae)[NeZero w.S.P](n t m:Nat)(L:List (List bo))(out:List Bool)(round:Int)(T:List aL):Prop where
 ll:L.length=n
 ol:out.length=n
 rl:∀d,d<n→(L.getD d []).length=m
 st:∀d,d<n→∀k,k<m→∃a b,y3 w n t ((L.getD d []).getD k ⟨[],[],[]⟩).A a∧y3 w n t ((L.getD d []).getD k ⟨[],[],[]⟩).B b∧y3 w n t ((L.getD d []).getD k ⟨[],[],[]⟩).C (a*b)∧(out.getD d false=true→a=0∧b=0)∧(Hn w d→a=o w.S.P ((w.ay.getD d []).getD (k*hH t) 0)∧b=o w.S.P ((w.ay.getD d []).getD (k*hH t+(t+1)) 0))
 ho:∀d,d<n→Hn w d→out.getD d false=false
 ex : ∀d, d<n → Hn w d → ∀k, k<m → ∀i, i<n → Hn w i → (((L.getD d []).getD k ⟨[], [], []⟩).A).getD i [] = Rw w.S.P (mx (hA (w.ay.getD d []) 0 t k) (A4 ((w.ay.getD d []).drop (0 + m * hH t)) t (k * (t + 3)))) (i + 1) ∧
    (((L.getD d []).getD k ⟨[],[],[]⟩).B).getD i []=Rw w.S.P (mx (hB (w.ay.getD d []) 0 t k) (A4 ((w.ay.getD d []).drop (0+m*hH t)) t (k*(t+3)+1))) (i+1) ∧
    (((L.getD d []).getD k ⟨[],[],[]⟩).C).getD i []=Rw w.S.P (mx (hC w.S.P (w.ay.getD d []) 0 t k) (A4 ((w.ay.getD d []).drop (0+m*hH t)) t (k*(t+3)+(t+2)))) (i+1)
 tp:Ci n T (λi=>w.ay.getD i []) (λi=>m*(hH t+(t+3)*(t*(t+1) / 2)))
 r0:m=0→round=0
 r8:0<m→round=8∨round=9
 rd:w.aa=[]→0<m→round=8
theorem P0{l:List Nat}{a t k:Nat}:(hA l a t k).getD 0 0=l.getD (a+k*hH t) 0:=by
 unfold hA
 rw[List.getD_eq_getElem?_getD,List.getElem?_take,if_pos (by omega),List.getElem?_drop,Nat.add_zero,←List.getD_eq_getElem?_getD]
theorem QU{l:List Nat}{a t k:Nat}:(hB l a t k).getD 0 0=l.getD (a+k*hH t+(t+1)) 0:=by
 unfold hB
 rw[List.getD_eq_getElem?_getD,List.getElem?_take,if_pos (by omega),List.getElem?_drop,Nat.add_zero,←List.getD_eq_getElem?_getD]
theorem DG{w:ae}{n t m:Nat}[NeZero w.S.P](v:Va w n t)(hn:n≤7)(ht:t=1∨t=2)(hm:m≤2)(h:∀i,i<n→m*(hH t+(t+3)*(t*(t+1) / 2))≤(w.ay.getD i []).length) :
  ∃L out round views T,fP ⟨w,0,List.replicate n [],w.ay.map λl=>⟨l,0⟩⟩ ((m:Nat):Int)=some (L,out,round,views,T)∧Q0 w n t m L out round T:=by
 have hts:Ci n (w.ay.map λl=>(⟨l,0⟩:aL)) (λi=>w.ay.getD i []) (λ_=>0):=⟨by simp[v.tl],λi hi=>by
  have:i<w.ay.length:=by rw[v.tl];exact hi
  simp[List.getD_eq_getElem?_getD,this],λi hi=>⟨Nat.zero_le _,v.ts i hi⟩⟩
 by_cases hm0:0<m
 ·obtain⟨L,out,round,views,T,e,a1,a2,a3,a4,a5,a6,a7,a8,a9⟩:=Gn (net:=⟨w,0,List.replicate n [],w.ay.map λl=>⟨l,0⟩⟩) (B:=0) v.toSc ht hn hm0 hm hts (λd hd=>by rw[Nat.zero_add];exact h d hd) (λd hd=>v.tb d hd) ⟨by simp,λj hj=>by simp[List.getD_eq_getElem?_getD,hj]⟩ (by omega) (by show 0≤(0:Int)∧(0:Int)≤700;omega)
  refine⟨L,out,round,views,T,e,a1,a2,a3,λd hd k hk=>?_,a5,a6,a7.congr λi hi=>by rw[Nat.zero_add],λh=>by omega,λ_=>?_,λh _=>?_⟩
  ·obtain⟨a,b,b1,b2,b3,b4,b5⟩:=a4 d hd k hk
   refine⟨a,b,b1,b2,b3,b4,λhh=>?_⟩
   obtain⟨c1,c2⟩:=b5 hh
   rw[P0,Nat.zero_add] at c1
   rw[QU,Nat.zero_add] at c2
   exact⟨c1,c2⟩
  ·simp only at a8;omega
  ·have:=a9 h;simp only at this;omega
 ·have:m=0:=by omega
  subst this
  have h13:=v.n13
  unfold fP bp
  rw[bS,eT (a:=((0:Nat):Int)) (b:=0) rfl,cT,v.N,ci (by omega) (by omega) (by omega) (by omega),bS,ci (by omega) (by omega) (by omega) (by omega),bS]
  refine⟨_,_,_,_,_,rfl,by simp,by simp,λd hd=>by simp[List.getD_eq_getElem?_getD,hd],λd hd k hk=>by omega,λd hd _=>by simp[List.getD_eq_getElem?_getD,hd],λd hd _ k hk=>by omega,hts.congr λi hi=>by rw[Nat.zero_mul],λ_=>rfl,λh=>by omega,λ_ h=>by omega⟩
end Pu

/- Laws of chapter 22 about one run: tapes, dealers, products. -/
set_option linter.unusedVariables false
namespace Pu
open Gw Gl Sp
end Pu

/- Laws of chapter 22 that compare with a run without deviations. -/
set_option linter.unusedVariables false
namespace Pu
open Gw Gl Sp
theorem Va.calm{w:ae}{n t:Nat}(v:Va w n t):Va ⟨w.S,w.af,[],w.ay⟩ n t :=
 {sup:=v.sup,N:=v.N,T:=v.T,n4:=v.n4,n13:=v.n13,t1:=v.t1,t3:=v.t3,cl:=v.cl,cr:=v.cr,dl:=by simp,dv:=λx hx=>(by cases hx),ord:=v.ord,tl:=v.tl,tb:=v.tb,ts:=v.ts,full:=λx hx=>(by cases hx) }
theorem C0{a b:List Bool}(h:a=b):jf a b=some true:=by
 subst h
 unfold jf
 rw[qF rfl,cF,Nat.sub_zero,vk (λk _ hk=>by
  unfold mP
  rw[ix false (by omega),bS,bS,bne_self_eq_false,cF]),bS,oG]
theorem CN(w:ae)(m:Nat)(hK:∀y∈w.aa,y.K<18446744073709551616):gx w m=some true:=by
 unfold gx
 rw[PR,bS,nT,cF]
 obtain⟨b,eb,hb⟩:=EA (w:=w) (m:=m) (q:=5) hK (by omega)
 rw[eb,bS]
 cases b
 ·rw[nF,cT,bS,cT]
 ·obtain⟨n,t,v,_,hn,ht,hm,hu,hl⟩:=hb rfl
  rw[nT,cF,bS]
  by_cases hm0:m=0
  ·rw[eT (by omega),cT]
  ·have hp:=v.sup
   have hlt:=hp.lt
   have:NeZero w.S.P:=hp.ne
   have h13:=v.n13
   have h3:=v.t3
   obtain⟨L,out,round,views,T,e,g⟩:=DG v.calm (by omega) ht hm hl
   obtain⟨L',out',round',views',T',e',g'⟩:=DG v (by omega) ht hm hl
   have ol:=g.ol
   have ll:=g.ll
   have hr:=g.rd rfl (by omega)
   have hr':=g'.r8 (by omega)
   have hout:out=List.replicate n false:=by
    refine List.ext_getElem? λi=>?_
    by_cases hi:i<n
    ·rw[ix false (by omega),g.ho i hi (.inr rfl),List.getElem?_replicate,if_pos hi]
    ·rw[List.getElem?_eq_none (by omega),List.getElem?_eq_none (by simp;omega)]
   rw[eF (by omega),cF,GM v.calm,bS,sR,GM v,bS,sR]
   generalize KQ ((m:Nat):Int)=z at hu
   subst hu
   simp only at e e'
   rw[bS,e,bS,e',bS]
   simp only
   rw[show gS w.S L ((m:Nat):Int)=some true from ED v.calm.toSc hm g.ll g.rl (λd hd k hk=>by
    obtain⟨a,b,A,B,C,_⟩:=g.st d hd k hk
    exact⟨a,b,_,A,B,C⟩),bS,nT,cF,v.N,ci (by omega) (by omega) (by omega) (by omega),bS,Int.toNat_natCast,C0 hout,bS,nT,cF]
   unfold iF
   rw[bS]
   simp only
   rw[hr,qF rfl,cF,bS]
   have hx:(bif round' != (8:Int) then some (round' != (9:Int)) else some false)=some false:=by
    rcases hr' with h | h <;> rw[h] <;> rfl
   rw[hx,bS,cF,show max 0 n=n by omega,bJ (by omega),bS,Nat.sub_zero,vk (λd _ hd=>by
    have hd:d<n:=by omega
    obtain⟨a,b,A,B,C,hz,hs⟩:=g.st d hd 0 (by omega)
    obtain⟨sa,sb⟩:=hs (.inr rfl)
    rw[Nat.zero_mul] at sa sb
    rw[Nat.zero_add] at sb
    have hab:(a*b).val=a.val*b.val % w.S.P:=Fin.val_mul a b
    have ha:=a.isLt
    have hlen:=hl d hd
    have h1:1*(hH t+(t+3)*(t*(t+1) / 2))≤m*(hH t+(t+3)*(t*(t+1) / 2)):=Nat.mul_le_mul_right _ (by omega)
    have hHt:hH t=2*(t+1)+t*t:=rfl
    have b0:∀j,(w.ay.getD d []).getD j 0<w.S.P:=λj=>Lt.get hp.pos (v.tb d hd) j
    have va:a.val=(w.ay.getD d []).getD 0 0:=by rw[sa];exact Nat.mod_eq_of_lt (b0 _)
    have vb:b.val=(w.ay.getD d []).getD (t+1) 0:=by rw[sb];exact Nat.mod_eq_of_lt (b0 _)
    have et:((t:Nat):Int)+1=((t+1:Nat):Int):=by omega
    have oA:=xl v.calm.toSc (by omega) A
    have oC:=xl v.calm.toSc (by omega) C
    unfold je
    simp only
    rw[ix [] (by rw[v.tl];exact hd),bS,ix [] (by omega),bS,ix ⟨[],[],[]⟩ (by rw[g.rl d hd];omega),bS,oA,bS,oC,bS]
    simp only[bne_self_eq_false]
    rw[cF,cF,ix 0 (by omega),bS,qF (by rw[va]),cF,v.T,bi (by omega) (by omega),bS,et,aS 0 (by omega) (by omega),bS,Int.toNat_natCast,zx hp ha (by have:=b0 (t+1);omega),bS,qF (by rw[hab,vb]),cF]),bS,oG]
end Pu
