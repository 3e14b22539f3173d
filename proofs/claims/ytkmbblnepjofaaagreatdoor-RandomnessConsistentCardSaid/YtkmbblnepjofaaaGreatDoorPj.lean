/- Plain laws of chapter 19: the values of rows of a symmetric matrix. -/
import Derived.Test.YtkmbblnepjofaaaGreatDoorPi
set_option linter.unusedVariables false
namespace Pu
open Gw Gl Sp
theorem sn {R:Type} [Lean.Grind.CommRing R] {m n:Nat} (f:Nat→Nat→R):sm m (fun j=>sm n (fun k=>f j k))=sm n (fun k=>sm m (fun j=>f j k)):=by
  induction m with
  | zero=>simp only [sm];rw [so (fun _ _=>rfl)]
  | succ m ih=>simp only [sm];rw [ih,Ho]
section
variable {p:Nat} [NeZero p]
theorem BZ (hp:fW p) {m x y:Nat} {M:List (List Nat)} (hM:xw p m m M) (hm:m≤10) (hx:x < p) (hy:y < p):o p (mO p (Rw p M x) y)=sm m (fun j=>sm m (fun k=>o p ((M.getD k []).getD j 0)*(o p x ^ k*o p y ^ j))):=by
  obtain ⟨_,_,hl,ht,hv⟩:=ni hp hM hm hx
  rw [(iR hp ht hy (by omega)).2.2,uc (n:=m) _ (by rw [ra,hl];exact Nat.le_refl _)]
  refine ci fun j hj=>?_
  rw [pY,hv j hj,Lean.Grind.CommRing.mul_comm,← mz]
  exact ci fun k _=>by grind
/-- the value of the row at x at y is that of the row at y at x -/
theorem vP (hp:fW p) {m x y:Nat} {M:List (List Nat)} (hM:xw p m m M) (hs:∀ i,i < m→∀ j,j < m→(M.getD i []).getD j 0=(M.getD j []).getD i 0) (hm:m≤10) (hx:x < p) (hy:y < p):mO p (Rw p M x) y=mO p (Rw p M y) x:=by
  obtain ⟨_,_,hl,ht,_⟩:=ni hp hM hm hx
  obtain ⟨_,_,hl',ht',_⟩:=ni hp hM hm hy
  refine qn (p:=p) (iR hp ht hy (by omega)).2.1 (iR hp ht' hx (by omega)).2.1 ?_
  rw [BZ hp hM hm hx hy,BZ hp hM hm hy hx,sn]
  refine ci fun k hk=>ci fun j hj=>?_
  rw [hs k hk j hj];grind
end
end Pu

/- Plain laws of chapter 19: the second round, and the flags of a party. -/
set_option linter.unusedVariables false
namespace Pu
open Gw Gl Sp
/-- who sends what it should: the honest ones, and all if nobody deviates -/
def Hn (w:ab) (i:Nat):Prop:=(((i:Nat):Int)+1) ∉ w.af ∨ w.aa=[]
/-- what has been noted is little -/
def VB (n B:Nat) (v:List (List al)):Prop:=v.length=n∧∀ j,j < n→(v.getD j []).length≤B
theorem CN {p q:Nat} {l:List Nat} (h:Lt p l) (hpq:p≤q):Lt q l:=fun i hi=>Nat.lt_of_lt_of_le (h i hi) hpq
theorem sx {p n:Nat} {v:Nat→Nat} (h:∀ k,k < n→v k < p):Lt p ((List.range n).map v):=fun i hi=>by
  have hi:i < n:=by simpa using hi
  rw [List.getD_eq_getElem?_getD,List.getElem?_map,List.getElem?_range hi];exact h i hi
theorem bv {α:Type} {n i:Nat} {v:Nat→α} {d:α} (h:i < n):((List.range n).map v).getD i d=v i:=by
  rw [List.getD_eq_getElem?_getD,List.getElem?_map,List.getElem?_range h];rfl
/-- a loop that lengthens one row -/
theorem ut {α:Type} {body:Nat→List (List α)→Option (List (List α))} {n i a r:Nat} (w:Nat→α) {l0:List (List α)} (hi:i < n) (h0:l0.length=n)
    (hb:∀ q l,q < r→l.length=n→(l.getD i []).length=(l0.getD i []).length+q→body (a+q) l=some (l.set i (l.getD i []++[w q]))):dU body r a l0=some (l0.set i (l0.getD i []++(List.range r).map w)):=by
  obtain ⟨l,e,q,hq,h⟩:=bw (body:=body) (fun k l=>∃ q,k=a+q∧l=l0.set i (l0.getD i []++(List.range q).map w)) (rem:=r) (k:=a) (s:=l0) ⟨0,rfl,by
      rw [List.range_zero,List.map_nil,List.append_nil,ri (by omega)]⟩ (fun k l hk1 hk ⟨q,hq,hl⟩=>by
    subst hq
    have hg:l.getD i []=l0.getD i []++(List.range q).map w:=by rw [hl,aX (by omega),if_pos rfl]
    refine ⟨_,hb q l (by omega) (by rw [hl,List.length_set];exact h0) (by rw [hg,List.length_append,List.length_map,List.length_range]),q+1,by omega,?_⟩
    rw [hg,hl,List.set_set,List.range_succ,List.map_append,List.append_assoc];rfl)
  have:q=r:=by omega
  subst this
  rw [e,h]
/-- a loop that fills rows one after another -/
theorem uu {α:Type} {body:Nat→List (List α)→Option (List (List α))} {n:Nat} (v:Nat→List α)
    (hb:∀ i l,i < n→l.length=n→l.getD i []=[]→body i l=some (l.set i (v i))):dU body n 0 (List.replicate n [])=some ((List.range n).map v):=by
  obtain ⟨l,e,h1,h2,h3⟩:=bw (body:=body) (fun k l=>l.length=n∧(∀ j,j < k→l.getD j []=v j)∧∀ j,k≤j→j < n→l.getD j []=[]) (rem:=n) (k:=0) (s:=List.replicate n [])
    ⟨by simp,fun j hj=>by omega,fun j _ hj=>by rw [List.getD_eq_getElem?_getD,List.getElem?_replicate,if_pos hj];rfl⟩ (fun k l _ hk ⟨h1,h2,h3⟩=>by
      have hkn:k < n:=by omega
      refine ⟨_,hb k l hkn h1 (h3 k (Nat.le_refl k) hkn),by rw [List.length_set];exact h1,fun j hj=>?_,fun j hj hjn=>?_⟩
      · rw [aX (by omega)]
        by_cases g:k=j
        · rw [if_pos g,g]
        · rw [if_neg g];exact h2 j (by omega)
      · rw [aX (by omega),if_neg (by omega)];exact h3 j (by omega) hjn)
  rw [Nat.zero_add] at h2
  rw [e]
  congr 1
  refine List.ext_getElem? fun i=>?_
  by_cases g:i < n
  · rw [ix [] (by omega),h2 i g,List.getElem?_map,List.getElem?_range g];rfl
  · rw [List.getElem?_eq_none (by omega),List.getElem?_eq_none (by simp;omega)]
theorem mi {p:Nat} {m:Nat→Nat} {Ri:List (List (List Nat))} {x d:Nat}:(lJ p (d+1) m Ri x).length=(lJ p d m Ri x).length+m d:=by
  unfold lJ
  rw [List.range_succ,List.map_append,List.flatten_append,List.length_append];simp
theorem qA {p:Nat} {m:Nat→Nat} {Ri:List (List (List Nat))} {x d:Nat}:∀ {n:Nat},d≤n→(lJ p d m Ri x).length≤(lJ p n m Ri x).length
  | 0, h => by have : d = 0 := by omega
               subst this;exact Nat.le_refl _
  | n+1,h=>by
    by_cases g:d=n+1
    · subst g;exact Nat.le_refl _
    · have:=qA (p:=p) (m:=m) (Ri:=Ri) (x:=x) (d:=d) (n:=n) (by omega)
      rw [mi];omega
theorem Ft {p:Nat} {m:Nat→Nat} {A B:List (List (List Nat))} {x y d:Nat}:(lJ p d m A x).length=(lJ p d m B y).length:=by
  induction d with
  | zero=>unfold lJ;simp
  | succ d ih=>rw [mi,mi,ih]
theorem tM {p:Nat} {m:Nat→Nat} {Ri:List (List (List Nat))} {x:Nat}:∀ {n d k:Nat},d < n→k < m d→(lJ p n m Ri x).getD ((lJ p d m Ri x).length+k) 0=mO p ((Ri.getD d []).getD k []) x
  | 0,d,k,h,_=>by omega
  | n+1,d,k,h,hk=>by
    have e:lJ p (n+1) m Ri x=lJ p n m Ri x++(List.range (m n)).map fun k=>mO p ((Ri.getD n []).getD k []) x:=by
      unfold lJ
      rw [List.range_succ,List.map_append,List.flatten_append];simp
    rw [e]
    by_cases g:d=n
    · subst g
      rw [List.getD_eq_getElem?_getD,List.getElem?_append_right (by omega),Nat.add_sub_cancel_left,← List.getD_eq_getElem?_getD,bv hk]
    · have h1:=qA (p:=p) (m:=m) (Ri:=Ri) (x:=x) (show d+1≤n by omega)
      rw [mi] at h1
      rw [dN (by omega)]
      exact tM (by omega) hk
theorem EM {n d j d' j':Nat} (h:d*n+j=d'*n+j') (hj:j < n) (hj':j' < n):d=d'∧j=j':=by
  have h1:j=j':=by
    have:=congrArg (· % n) h
    rw [Nat.add_comm,Nat.add_mul_mod_self_right,Nat.add_comm,Nat.add_mul_mod_self_right,Nat.mod_eq_of_lt hj,Nat.mod_eq_of_lt hj'] at this
    exact this
  subst h1
  have:d*n=d'*n:=by omega
  exact ⟨Nat.eq_of_mul_eq_mul_right (by omega) this,rfl⟩
section
variable {p:Nat} [NeZero p] {n t:Nat} {m:Nat→Nat}
theorem Hz (hp:fW p) {R:List (List (List (List Nat)))} (r:Rr p n t m R) (ht:t≤2) {i x:Nat} (hi:i < n) (hx:x < p):Lt p (lJ p n m (R.getD i []) x):=by
  unfold lJ
  refine rW fun d hd=>sx fun k hk=>?_
  obtain ⟨w1,w2⟩:=r.w i hi d hd k hk
  exact (iR hp w2 hx (by omega)).2.1
theorem xJ {ph:ai} (hp:ph.zs.P=p) (s:Sc ph.zn.zw n t) (ht:t≤2) (hz:ph.zs=ph.zn.zw.S) (r:Rr p n t m ph.zd.Rows) {B:Nat} (hv:VB n B ph.zn.au) (hB:B≤500) (hr:0≤ph.zn.ah∧ph.zn.ah≤1000) :
    ∃ all inn views,gH ph=some (inn,ph.zn.ah+1,views)∧inn.length=n∧(∀ i,i < n→(inn.getD i []).length=n)∧(∀ i,i < n→∀ j,j < n→Hn ph.zn.zw j→(inn.getD i []).getD j []=lJ p n m (ph.zd.Rows.getD j []) (i+1))∧views.length=n∧(∀ j,j < n→views.getD j []=ph.zn.au.getD j []++yz ph.zn.ah all j n) ∧
      br ph.zn.zw ph.zn.ah ((List.range n).map fun i=>(List.range n).map fun j=>lJ p n m (ph.zd.Rows.getD i []) (j+1))=some all∧∀ i,i < n→∀ j,j < n→(inn.getD i []).getD j []=(all.getD j []).getD i []:=by
  have h13:=s.n13
  have hN:ph.zs.N=(n:Int):=by rw [hz];exact s.N
  have hpw:ph.zn.zw.S.P=p:=by rw [← hz];exact hp
  have hsp:fW p:=by rw [← hpw];exact s.sup
  have hlt:=hsp.lt
  have hm2:∀ d,d < n→m d≤10:=r.m2
  have e1:b9 ph (List.replicate n [])=some ((List.range n).map fun i=>(List.range n).map fun j=>lJ p n m (ph.zd.Rows.getD i []) (j+1)):=by
    have hmx:max 0 ph.zs.N.toNat=n:=by rw [hN];simp
    unfold b9
    rw [hmx,cq (by omega),bS,Nat.sub_zero,uu (fun i=>(List.range n).map fun j=>lJ p n m (ph.zd.Rows.getD i []) (j+1)) (fun i l hi hl h0=>by
      have hmx:max 1 (ph.zs.N+1).toNat=n+1:=by rw [hN];omega
      unfold dB iG
      rw [hmx,cq (by omega),bS,Nat.add_sub_cancel,ut (fun j=>lJ p n m (ph.zd.Rows.getD i []) (j+1)) hi hl (fun q l' hq hl' hw=>by
        rw [h0] at hw
        simp only [List.length_nil] at hw
        unfold jR
        rw [aT [] (by omega) (by omega),bS,Nat.add_comm 1 q,te hsp h13 ht hp r hi (by omega) (by omega),bS,Int.toNat_natCast,aS (by simp only [List.length_cons,List.length_nil];omega) (by simp only [List.length_cons,List.length_nil];omega),bS,bS]),bS,bS,h0,List.nil_append]),bS]
  have hsq:Sq p n 130 ((List.range n).map fun i=>(List.range n).map fun j=>lJ p n m (ph.zd.Rows.getD i []) (j+1)):=⟨by simp,fun i hi=>by rw [bv hi];simp,fun i hi j hj=>by
    rw [bv hi,bv hj]
    have:=tO (n:=n) (p:=p) (Ri:=ph.zd.Rows.getD i []) (x:=j+1) hm2
    exact ⟨Hz hsp r ht hi (by omega),by omega⟩⟩
  obtain ⟨all,inn,views,ea,es,⟨q1,_⟩,q2,i1,i2,v1,v2⟩:=zk s (by rw [hpw];exact hsq) (by omega) hv.1 (fun j hj=>Nat.le_trans (hv.2 j hj) hB) hr
  refine ⟨all,inn,views,?_,i1,fun i hi=>(i2 i hi).1,fun i hi j hj hh=>?_,v1,v2,ea,fun i hi j hj=>(i2 i hi).2 j hj⟩
  · unfold gH
    rw [hN,cK (by omega) (by omega) (by omega) (by omega),bS,Int.toNat_natCast,e1,bS,es,bS]
  · rw [(i2 i hi).2 j hj]
    rcases hh with hc | hc
    · rw [q2 j hj hc,bv hj,bv hi]
    · rw [s5 s (by rw [hpw];exact hsq) hc ea,bv hj,bv hi]
theorem A5 (hp:fW p) {ph:ai} {i:Nat} (hn:n≤7) (ht:t≤2) (hN:ph.zs.N=(n:Int)) (hP:ph.zs.P=p) (hq:ph.zq.length=n) (hm:∀ d,d < n→(ph.zq.getD d []).length=m d) (r:Rr p n t m ph.zd.Rows) (hi:i < n) {heard:List (List Nat)} (hh:heard.length=n) :
    ∃ F,c8 ph ((i:Nat):Int) heard=some F∧F.length=n*n∧Lt 2 F∧((∀ j,j < n→j≠i→heard.getD j []=lJ p n m (ph.zd.Rows.getD i []) (j+1))→∀ k,F.getD k 0=0) ∧
      ∀ j,j < n→∀ d,d < n→(F.getD (d*n+j) 0≠0 ↔ j≠i∧∃ q,q < m d∧(heard.getD j []).getD ((lJ p d m (ph.zd.Rows.getD i []) (j+1)).length+q) 0≠mO p (((ph.zd.Rows.getD i []).getD d []).getD q []) (j+1)):=by
  have hlt:=hp.lt
  have hkeep:∀ {l:List Nat} {a b:Nat},a < l.length→l.getD b 0≠0→(l.set a 1).getD b 0≠0:=fun {l a b} ha hb=>by
    rw [aX ha];split
    · decide
    · exact hb
  have hmx:max 0 ph.zs.N.toNat=n:=by rw [hN];simp
  have i1:((n:Nat):Int)*((n:Nat):Int)=((n*n:Nat):Int):=by rw [Int.natCast_mul]
  have hnn:n*n≤7*7:=Nat.mul_le_mul hn hn
  unfold c8
  rw [hmx,hN,eK (by rw [i1];omega) (by rw [i1];omega),i1,bS,cK (by omega) (by omega) (by omega) (by omega),bS,cq (by omega),bS,Nat.sub_zero,Int.toNat_natCast]
  generalize hH:(∀ j,j < n→j≠i→heard.getD j []=lJ p n m (ph.zd.Rows.getD i []) (j+1))=Hyp
  generalize hVi:(fun (j d q:Nat)=>(heard.getD j []).getD ((lJ p d m (ph.zd.Rows.getD i []) (j+1)).length+q) 0≠mO p (((ph.zd.Rows.getD i []).getD d []).getD q []) (j+1))=vi
  obtain ⟨F,e,h1,h2,h3,hv,hw⟩:=bw (body:=fun k1 (st:(List Nat))=>i5 ph ((i:Nat):Int) heard k1 st) (rem:=n) (k:=0) (s:=List.replicate (n*n) 0)
    (fun k l=>l.length=n*n∧Lt 2 l∧(Hyp→∀ k,l.getD k 0=0)∧(∀ j,j < k→j≠i→(∀ d,d < n→∀ q,q < m d→vi j d q→l.getD (d*n+j) 0≠0))∧(∀ j',j' < n→∀ d',d' < n→l.getD (d'*n+j') 0≠0→j'≠i∧∃ q,q < m d'∧vi j' d' q)) ⟨by simp,fun k hk=>by
      rw [List.length_replicate] at hk
      rw [List.getD_eq_getElem?_getD,List.getElem?_replicate,if_pos hk];decide,fun _ k=>by
      rw [List.getD_eq_getElem?_getD,List.getElem?_replicate];split <;> rfl,fun j hj=>by omega,fun j' _ d' _ h=>absurd (by rw [List.getD_eq_getElem?_getD,List.getElem?_replicate];split <;> rfl) h⟩ (fun k l _ hk ⟨h1,h2,h3,hv,hw⟩=>by
      have hkn:k < n:=by omega
      unfold i5
      by_cases g:k=i
      · rw [zz g,cT];exact ⟨_,rfl,h1,h2,h3,fun j hj hji=>hv j (by omega) hji,hw⟩
      have ek:((k:Nat):Int)+1=((k+1:Nat):Int):=by omega
      have hvl:=tO (n:=n) (p:=p) (Ri:=ph.zd.Rows.getD i []) (x:=k+1) r.m2
      obtain ⟨c,ec,c1,c2⟩:=oQ (l:=heard.getD k []) (m:=(lJ p n m (ph.zd.Rows.getD i []) (k+1)).length) (by omega)
      rw [Kn g,cF,bh (by omega) (by omega),bS,ek,te hp (by omega) ht hP r hi (by omega) (by omega),bS,ix [] (by omega),bS,ec,bS,hq,Nat.sub_zero]
      have hsame:Hyp→∀ a,a < c.length→c.getD a 0=(lJ p n m (ph.zd.Rows.getD i []) (k+1)).getD a 0:=fun hy a ha=>by
        rw [← hH] at hy
        rw [c2 a (by omega),hy k hkn g]
      have hcc':∀ d q,q < m d→d < n→c.getD ((lJ p d m (ph.zd.Rows.getD i []) (k+1)).length+q) 0=(heard.getD k []).getD ((lJ p d m (ph.zd.Rows.getD i []) (k+1)).length+q) 0∧(lJ p n m (ph.zd.Rows.getD i []) (k+1)).getD ((lJ p d m (ph.zd.Rows.getD i []) (k+1)).length+q) 0=mO p (((ph.zd.Rows.getD i []).getD d []).getD q []) (k+1):=fun d q hq hd=>by
        have h1:=qA (p:=p) (m:=m) (Ri:=ph.zd.Rows.getD i []) (x:=k+1) (show d+1≤n by omega)
        rw [mi] at h1
        exact ⟨c2 _ (by omega),tM hd hq⟩
      have hcv:∀ d,d < n→∀ q,q < m d→vi k d q→c.getD ((lJ p d m (ph.zd.Rows.getD i []) (k+1)).length+q) 0≠(lJ p n m (ph.zd.Rows.getD i []) (k+1)).getD ((lJ p d m (ph.zd.Rows.getD i []) (k+1)).length+q) 0:=fun d hd q hq hvi=>by
        have h1:=qA (p:=p) (m:=m) (Ri:=ph.zd.Rows.getD i []) (x:=k+1) (show d+1≤n by omega)
        rw [mi] at h1
        rw [c2 _ (by omega),tM hd hq]
        rw [← hVi] at hvi;exact hvi
      generalize hV:lJ p n m (ph.zd.Rows.getD i []) (k+1)=V at *
      obtain ⟨⟨l',a'⟩,e',g1,g2,g3,g4,g5,g6,g7⟩:=bw (body:=fun k2 (st:(List Nat) × Int)=>eI ph k V c k2 st.1 st.2) (rem:=n) (k:=0) (s:=(l,((0:Nat):Int)))
        (fun d st=>st.1.length=n*n∧Lt 2 st.1∧(Hyp→∀ k,st.1.getD k 0=0)∧st.2=(((lJ p d m (ph.zd.Rows.getD i []) (k+1)).length:Nat):Int)∧(∀ j,j < k→j≠i→∀ d,d < n→∀ q,q < m d→vi j d q→st.1.getD (d*n+j) 0≠0)∧(∀ d',d' < d→∀ q,q < m d'→vi k d' q→st.1.getD (d'*n+k) 0≠0)∧(∀ j',j' < n→∀ d',d' < n→st.1.getD (d'*n+j') 0≠0→j'≠i∧∃ q,q < m d'∧vi j' d' q)) ⟨h1,h2,h3,by simp [lJ],hv,fun d' hd'=>by omega,hw⟩ (fun d st _ hd ⟨g1,g2,g3,g4,g5,g6,g7⟩=>by
          obtain ⟨l0,a0⟩:=st
          simp only at g1 g2 g3 g4 g5 g6 g7
          subst g4
          have hdn:d < n:=by omega
          have hoff:(lJ p (d+1) m (ph.zd.Rows.getD i []) (k+1)).length≤V.length:=by rw [← hV];exact qA hdn
          rw [mi] at hoff
          unfold eI
          simp only
          rw [ix [] (by omega),bS,hm d hdn,Nat.sub_zero]
          obtain ⟨⟨l2,a2⟩,e2,f1,f2,f3,f4,f5,f6,f7,f8⟩:=bw (body:=fun k3 (st:(List Nat) × Int)=>eJ ph k V c d k3 st.1 st.2) (rem:=m d) (k:=0) (s:=(l0,(((lJ p d m (ph.zd.Rows.getD i []) (k+1)).length:Nat):Int)))
            (fun q st=>st.1.length=n*n∧Lt 2 st.1∧(Hyp→∀ k,st.1.getD k 0=0)∧st.2=(((lJ p d m (ph.zd.Rows.getD i []) (k+1)).length+q:Nat):Int)∧(∀ j,j < k→j≠i→∀ d,d < n→∀ q,q < m d→vi j d q→st.1.getD (d*n+j) 0≠0)∧(∀ d',d' < d→∀ q,q < m d'→vi k d' q→st.1.getD (d'*n+k) 0≠0)∧(∀ q',q' < q→vi k d q'→st.1.getD (d*n+k) 0≠0)∧(∀ j',j' < n→∀ d',d' < n→st.1.getD (d'*n+j') 0≠0→j'≠i∧∃ q,q < m d'∧vi j' d' q)) ⟨g1,g2,g3,rfl,g5,g6,fun q' hq'=>by omega,g7⟩ (fun q st _ hq2 ⟨f1,f2,f3,f4,f5,f6,f7,f8⟩=>by
              obtain ⟨l1,a1⟩:=st
              simp only at f1 f2 f3 f4 f5 f6 f7 f8
              subst f4
              have hqm:q < m d:=by omega
              have hcq:=hcv d hdn q hqm
              have hcc:=fun q hq (hd:d < n)=>hcc' d q hq hd
              generalize hA:(lJ p d m (ph.zd.Rows.getD i []) (k+1)).length+q=A at *
              have hAV:A < V.length:=by omega
              unfold eJ
              simp only
              rw [aT 0 (by omega) (by omega),bS,aT 0 (by omega) (by omega),bS,Int.toNat_natCast]
              by_cases gq:c.getD A 0=V.getD A 0
              · rw [qF (by rw [gq]),cF,bh (by omega) (by omega),bS]
                refine ⟨_,rfl,f1,f2,f3,by show _=_;omega,f5,f6,fun q' hq' hvi=>?_,f8⟩
                by_cases gg:q'=q
                · subst gg;exact absurd gq (hcq hvi)
                · exact f7 q' (by omega) hvi
              · have i2:((d:Nat):Int)*((n:Nat):Int)=((d*n:Nat):Int):=by rw [Int.natCast_mul]
                have hdd:(d+1)*n≤n*n:=Nat.mul_le_mul_right _ hdn
                rw [Nat.add_mul,Nat.one_mul] at hdd
                have i3:((d*n:Nat):Int)+((k:Nat):Int)=((d*n+k:Nat):Int):=by omega
                rw [qT (by omega),cT,hN,eK (by rw [i2];omega) (by rw [i2];omega),bS,i2,bh (by omega) (by omega),bS,i3,aT 0 (by omega) (by omega),bS,bS,bh (by omega) (by omega),bS]
                refine ⟨_,rfl,by show (l1.set _ _).length=_;rw [List.length_set];exact f1,vn f2 (by decide),fun hy=>absurd (hsame hy A (by omega)) gq,by show _=_;omega,fun j hj hji d' hd' q' hq' hvi=>hkeep (by omega) (f5 j hj hji d' hd' q' hq' hvi),fun d' hd' q' hq' hvi=>hkeep (by omega) (f6 d' hd' q' hq' hvi),fun q' hq' hvi=>?_,fun j' hj' d' hd' hne=>?_⟩
                · show (l1.set _ 1).getD _ 0≠0
                  rw [Int.toNat_natCast,aX (by omega),if_pos rfl];decide
                · have hne:(l1.set ((d*n+k:Nat):Int).toNat 1).getD (d'*n+j') 0≠0:=hne
                  rw [Int.toNat_natCast,aX (by omega)] at hne
                  by_cases gg:d*n+k=d'*n+j'
                  · obtain ⟨rfl,rfl⟩:=EM gg hkn hj'
                    refine ⟨g,q,hqm,?_⟩
                    rw [← hVi]
                    intro hh
                    have:=hcc q hqm hdn
                    exact gq (by rw [← hA,this.1,this.2];exact hh)
                  · rw [if_neg gg] at hne;exact f8 j' hj' d' hd' hne)
          rw [Nat.zero_add] at f4
          rw [Nat.zero_add] at f7
          simp only at f1 f2 f3 f4 f5 f6 f7 f8
          rw [e2,bS]
          refine ⟨_,rfl,f1,f2,f3,?_,f5,fun d' hd' q' hq' hvi=>?_,f8⟩
          · show a2=_
            rw [mi];exact f4
          · by_cases gg:d'=d
            · subst gg;exact f7 q' hq' hvi
            · exact f6 d' (by omega) q' hq' hvi)
      rw [Nat.zero_add] at g6
      rw [e',bS]
      refine ⟨_,rfl,g1,g2,g3,fun j hj hji d hd q hq hvi=>?_,g7⟩
      by_cases gg:j=k
      · subst gg;exact g6 d hd q hq hvi
      · exact g5 j (by omega) hji d hd q hq hvi)
  rw [Nat.zero_add] at hv
  refine ⟨F,by rw [e,bS],h1,h2,fun hy=>h3 hy,fun j hj d hd=>⟨fun hne=>?_,fun ⟨hji,q,hq,hvi⟩=>hv j hj hji d hd q hq ?_⟩⟩
  · obtain ⟨c1,q,c2,c3⟩:=hw j hj d hd hne
    rw [← hVi] at c3
    exact ⟨c1,q,c2,c3⟩
  · rw [← hVi];exact hvi
end
end Pu

/- Plain laws of chapter 19: the third round, and the whole first half. -/
set_option linter.unusedVariables false
namespace Pu
open Gw Gl Sp
theorem zy {n B:Nat} {v v':List (List al)} {all:List (List (List Nat))} {round:Int} (hl:v'.length=n) (h:∀ j,j < n→v'.getD j []=v.getD j []++yz round all j n) (hb:VB n B v):VB n (B+n) v':=⟨hl,fun j hj=>by
  rw [h j hj,List.length_append]
  have:=hb.2 j hj
  have:=yA (round:=round) (all:=all) (j:=j) (k:=n)
  omega⟩
/-- a broadcast -/
theorem yp {net:ap} {n t L B:Nat} (s:Sc net.zw n t) {out:List (List Nat)} (ho:Bl net.zw.S.P n L out) (hL:L≤1000) (hv:VB n B net.au) (hB:B≤500) (hr:0≤net.ah∧net.ah≤1000) :
    ∃ all views,ce net out=some (all,net.ah+1,views)∧Bl net.zw.S.P n L all∧(∀ i,i < n→Hn net.zw i→all.getD i []=out.getD i [])∧VB n (B+n) views ∧
      aO net.zw net.ah out=some all∧∀ j,j < n→views.getD j []=net.au.getD j []++vD net.ah all j n:=by
  obtain ⟨all,views,e,ea,b1,b2,b3,b4,b5⟩:=AF s ho hL hv.1 (fun j hj=>Nat.le_trans (hv.2 j hj) hB) hr
  refine ⟨all,views,e,b1,fun i hi hh=>?_,⟨b4,fun j hj=>?_⟩,ea,b5⟩
  · rcases hh with hc | hc
    · exact b2 i hi hc
    · rw [b3 hc]
  · rw [b5 j hj,List.length_append]
    have:=hv.2 j hj
    have:=yw (round:=net.ah) (all:=all) (j:=j) (k:=n)
    omega
theorem Bq {l:List Nat} {w m k c:Nat} (hk:k < m) (hc:c < w):((got l w m).getD k []).getD c 0=l.getD (k*w+c) 0:=by
  rw [pg hk,bv hc]
theorem vA {ph:ai} {n i:Nat} (hN:ph.zs.N=(n:Int)) (hn:n≤7) {all:List (List Nat)} (hl:all.length=n) (hi:i < n) (h0:ph.zd.az.length=n) (h4:ph.zd.az.getD i []=[]) :
    fq ((i:Nat):Int) all ph=some ⟨ph.zd.S,ph.zd.Rows,ph.zd.az.set i (got (all.getD i []) n n)⟩:=by
  have hmx:max 0 ph.zs.N.toNat=n:=by rw [hN];simp
  have i1:((n:Nat):Int)*((n:Nat):Int)=((n*n:Nat):Int):=by rw [Int.natCast_mul]
  have hnn:n*n≤7*7:=Nat.mul_le_mul hn hn
  obtain ⟨r,er,r1,r2⟩:=oQ (l:=all.getD i []) (m:=n*n) (by omega)
  unfold fq
  rw [hmx,hN,aT [] (by omega) (by omega),bS,Int.toNat_natCast,eK (by rw [i1];omega) (by rw [i1];omega),i1,bS,er,bS,cq (by omega),bS,Nat.sub_zero,
    ut (fun k=>(List.range n).map fun c=>(all.getD i []).getD (k*n+c) 0) hi h0 (fun q l hq hl' hw=>by
      rw [h4] at hw
      simp only [List.length_nil] at hw
      obtain ⟨c1,c2,c3⟩:=AK (l:=all.getD i []) (k:=q) (w:=n) (m:=n) r1 r2 hq (by omega) (by omega) (by omega)
      unfold jv
      rw [Nat.zero_add,hN,aT [] (by omega) (by omega),bS,Int.toNat_natCast,c1,bS,bh (by omega) (by omega),bS,c2,bS,c3,bS,aS (by simp only [List.length_cons,List.length_nil];omega) (by simp only [List.length_cons,List.length_nil];omega),bS,bS]),bS,h4,List.nil_append]
  rfl
section
variable {p:Nat} [NeZero p] {n t:Nat} {m:Nat→Nat}
theorem wt {ph:ai} (hp:ph.zs.P=p) (s:Sc ph.zn.zw n t) (hn:n≤7) (ht:t≤2) (hz:ph.zs=ph.zn.zw.S) (hq:ph.zq.length=n) (hm:∀ d,d < n→(ph.zq.getD d []).length=m d) (r:Rr p n t m ph.zd.Rows) (hF:ph.zd.az=List.replicate n []) {heard:List (List (List Nat))} (hl:heard.length=n) (hh:∀ i,i < n→(heard.getD i []).length=n) {B:Nat} (hv:VB n B ph.zn.au) (hB:B≤500) (hr:0≤ph.zn.ah∧ph.zn.ah≤1000) :
    ∃ (all:List (List Nat)) (views:List (List al)),gn ph heard=some (ph.zn.ah+1,views,⟨ph.zd.S,ph.zd.Rows,(List.range n).map fun i=>got (all.getD i []) n n⟩)∧VB n (B+n) views ∧
      (ph.zn.zw.aa=[]→(∀ i,i < n→∀ j,j < n→j≠i→(heard.getD i []).getD j []=lJ p n m (ph.zd.Rows.getD i []) (j+1))→∀ i,i < n→∀ k,(all.getD i []).getD k 0=0) ∧
      ∃ fl:Nat→List Nat,aO ph.zn.zw ph.zn.ah ((List.range n).map fl)=some all∧(∀ j,j < n→views.getD j []=ph.zn.au.getD j []++vD ph.zn.ah all j n)∧(∀ i,i < n→(fl i).length=n*n∧Lt 2 (fl i)∧∀ j,j < n→∀ d,d < n→((fl i).getD (d*n+j) 0≠0 ↔ j≠i∧∃ q,q < m d∧((heard.getD i []).getD j []).getD ((lJ p d m (ph.zd.Rows.getD i []) (j+1)).length+q) 0≠mO p (((ph.zd.Rows.getD i []).getD d []).getD q []) (j+1)))∧∀ i,i < n→Hn ph.zn.zw i→all.getD i []=fl i:=by
  have hN:ph.zs.N=(n:Int):=by rw [hz];exact s.N
  have hpw:ph.zn.zw.S.P=p:=by rw [← hz];exact hp
  have hsp:fW p:=by rw [← hpw];exact s.sup
  have hlt:=hsp.lt
  have hnn:n*n≤7*7:=Nat.mul_le_mul hn hn
  have hmx:max 0 ph.zs.N.toNat=n:=by rw [hN];simp
  have hfl:∀ i,i < n→∃ F,c8 ph ((i:Nat):Int) (heard.getD i [])=some F∧F.length=n*n∧Lt 2 F∧((∀ j,j < n→j≠i→(heard.getD i []).getD j []=lJ p n m (ph.zd.Rows.getD i []) (j+1))→∀ k,F.getD k 0=0)∧∀ j,j < n→∀ d,d < n→(F.getD (d*n+j) 0≠0 ↔ j≠i∧∃ q,q < m d∧((heard.getD i []).getD j []).getD ((lJ p d m (ph.zd.Rows.getD i []) (j+1)).length+q) 0≠mO p (((ph.zd.Rows.getD i []).getD d []).getD q []) (j+1)) :=
    fun i hi=>A5 hsp hn ht hN hp hq hm r hi (hh i hi)
  generalize hfd:(fun i:Nat=>(c8 ph ((i:Nat):Int) (heard.getD i [])).getD [])=fl
  have hfl2:∀ i,i < n→c8 ph ((i:Nat):Int) (heard.getD i [])=some (fl i)∧(fl i).length=n*n∧Lt 2 (fl i)∧((∀ j,j < n→j≠i→(heard.getD i []).getD j []=lJ p n m (ph.zd.Rows.getD i []) (j+1))→∀ k,(fl i).getD k 0=0)∧∀ j,j < n→∀ d,d < n→((fl i).getD (d*n+j) 0≠0 ↔ j≠i∧∃ q,q < m d∧((heard.getD i []).getD j []).getD ((lJ p d m (ph.zd.Rows.getD i []) (j+1)).length+q) 0≠mO p (((ph.zd.Rows.getD i []).getD d []).getD q []) (j+1)):=fun i hi=>by
    obtain ⟨F,e,h⟩:=hfl i hi
    have:fl i=F:=by rw [← hfd];show (c8 ph ((i:Nat):Int) (heard.getD i [])).getD []=F;rw [e];rfl
    rw [this];exact ⟨e,h⟩
  have e1:bX ph heard (List.replicate n [])=some ((List.range n).map fl):=by
    unfold bX
    rw [hmx,cq (by omega),bS,Nat.sub_zero,uu fl (fun i l hi hl' _=>by
      unfold dt ij
      rw [aT [] (by omega) (by omega),bS,Int.toNat_natCast,(hfl2 i hi).1,bS,aT [] (by omega) (by omega),bS,bS,bS]),bS]
  have hbl:Bl ph.zn.zw.S.P n 49 ((List.range n).map fl):=⟨by simp,fun i hi=>by
    rw [bv hi,hpw]
    obtain ⟨_,f1,f2,_,_⟩:=hfl2 i hi
    exact ⟨CN f2 (by omega),by omega⟩⟩
  obtain ⟨all,views,e2,b1,b2,b3,b5,b6⟩:=yp s hbl (by omega) hv hB hr
  refine ⟨all,views,?_,b3,fun hd hy=>?_,fl,b5,b6,fun i hi=>⟨(hfl2 i hi).2.1,(hfl2 i hi).2.2.1,(hfl2 i hi).2.2.2.2⟩,fun i hi hh=>by rw [b2 i hi hh,bv hi]⟩
  · have e3:bY (⟨⟨ph.zn.zw,ph.zn.ah+1,views,ph.zn.am⟩,ph.zs,ph.zq,ph.zd⟩:ai) all=some ⟨ph.zd.S,ph.zd.Rows,(List.range n).map fun i=>got (all.getD i []) n n⟩:=by
      unfold bY
      simp only
      rw [hmx,cq (by omega),bS,Nat.sub_zero]
      obtain ⟨⟨S,R,F⟩,e,a1,a2,a3,a4,a5⟩:=bw (body:=fun k1 (st:(List (List (List (List Nat)))) × (List (List (List (List Nat)))) × (List (List (List Nat))))=>bq (⟨⟨ph.zn.zw,ph.zn.ah+1,views,ph.zn.am⟩,ph.zs,ph.zq,ph.zd⟩:ai) all k1 st.1 st.2.1 st.2.2) (rem:=n) (k:=0) (s:=(ph.zd.S,ph.zd.Rows,ph.zd.az))
        (fun k st=>st.1=ph.zd.S∧st.2.1=ph.zd.Rows∧st.2.2.length=n∧(∀ j,j < k→st.2.2.getD j []=got (all.getD j []) n n)∧∀ j,k≤j→j < n→st.2.2.getD j []=[])
        ⟨rfl,rfl,by show ph.zd.az.length=n;rw [hF];simp,fun j hj=>by omega,fun j _ hj=>by show ph.zd.az.getD j []=[];rw [hF,List.getD_eq_getElem?_getD,List.getElem?_replicate,if_pos hj];rfl⟩ (fun k st _ hk ⟨a1,a2,a3,a4,a5⟩=>by
          obtain ⟨S,R,F⟩:=st
          simp only at a1 a2 a3 a4 a5
          subst a1;subst a2
          have hkn:k < n:=by omega
          have:=vA (ph:=⟨⟨ph.zn.zw,ph.zn.ah+1,views,ph.zn.am⟩,ph.zs,ph.zq,⟨ph.zd.S,ph.zd.Rows,F⟩⟩) hN hn b1.len hkn a3 (a5 k (Nat.le_refl k) hkn)
          unfold bq
          simp only
          rw [this,bS]
          refine ⟨_,rfl,rfl,rfl,by show (F.set _ _).length=n;rw [List.length_set];exact a3,fun j hj=>?_,fun j hj hjn=>?_⟩
          · show (F.set k _).getD j []=_
            rw [aX (by omega)]
            by_cases g:k=j
            · rw [if_pos g,g]
            · rw [if_neg g];exact a4 j (by omega)
          · show (F.set k _).getD j []=_
            rw [aX (by omega),if_neg (by omega)];exact a5 j (by omega) hjn)
      rw [Nat.zero_add] at a4
      simp only at a1 a2 a3 a4 a5
      subst a1;subst a2
      rw [e,bS]
      have:F=(List.range n).map fun i=>got (all.getD i []) n n:=by
        refine List.ext_getElem? fun i=>?_
        by_cases g:i < n
        · rw [ix [] (by omega),a4 i g,List.getElem?_map,List.getElem?_range g];rfl
        · rw [List.getElem?_eq_none (by omega),List.getElem?_eq_none (by simp;omega)]
      rw [this]
    unfold gn
    rw [hN,cK (by omega) (by omega) (by omega) (by omega),bS,Int.toNat_natCast,e1,bS,e2,bS]
    simp only
    rw [e3,bS]
  · have hz0:∀ i,i < n→∀ k,(((List.range n).map fl).getD i []).getD k 0=0:=fun i hi k=>by
      rw [bv hi];exact (hfl2 i hi).2.2.2.1 (fun j hj hji=>hy i hi j hj hji) k
    exact fun i hi k=>by rw [b2 i hi (.inr hd)];exact hz0 i hi k
end
theorem tR {p n t:Nat} {q:List (List (List Nat))} {tapes:List (List Nat)} (hp:0 < p) (ht:t=1 ∨ t=2) (Q:Qs p n t q tapes) {d k:Nat} (hd:d < n) (hk:k < (q.getD d []).length) :
    iD ((q.getD d []).getD k []) (CL (tapes.getD d []) t k)=some ((Sm q tapes t d).getD k [],0)∧xw p (t+1) (t+1) ((Sm q tapes t d).getD k [])∧∀ i,i < t+1→∀ j,j < t+1→(((Sm q tapes t d).getD k []).getD i []).getD j 0=(((Sm q tapes t d).getD k []).getD j []).getD i 0:=by
  obtain ⟨w1,w2⟩:=Q.w d hd k hk
  rw [xx hk]
  obtain ⟨_,a,b,c⟩:=FQ ht w1 (vT (Q.many d hd).2 hk) w2 (Cc (Q.ts d hd).2)
  exact ⟨a,b,c⟩
theorem pZ {t:Nat} {q:List (List (List Nat))} {tapes:List (List Nat)} {d:Nat}:(Sm q tapes t d).length=(q.getD d []).length:=by unfold Sm;simp
/-- the flags of all parties stand -/
structure Fl (n:Nat) (F:List (List (List Nat))):Prop where
  len:F.length=n
  row:∀ i,i < n→(F.getD i []).length=n
  w:∀ i,i < n→∀ d,d < n→((F.getD i []).getD d []).length=n
/-- what has been said in the first half -/
structure Kw (w:ab) (n t:Nat) (round:Int) (m:Nat→Nat) (S R:List (List (List (List Nat)))) (F:List (List (List Nat))) (v0 views:List (List al)) (A0 A1 o0:List (List (List Nat))) (h2:List (List Nat)) (fl:Nat→List Nat):Prop where
  q0:Sq w.S.P n 30 o0
  eo0:∀ i,i < n→∀ j,j < n→(o0.getD i []).getD j []=oR w.S.P (S.getD i []) (j+1)
  a0:br w round o0=some A0
  r:∀ i,i < n→R.getD i []=(List.range n).map fun d=>got ((A0.getD d []).getD i []) (t+1) (m d)
  a1:br w (round+1) ((List.range n).map fun i=>(List.range n).map fun j=>lJ w.S.P n m (R.getD i []) (j+1))=some A1
  efl:∀ i,i < n→(fl i).length=n*n∧Lt 2 (fl i)∧∀ j,j < n→∀ d,d < n→((fl i).getD (d*n+j) 0≠0 ↔ j≠i∧∃ q,q < m d∧((A1.getD j []).getD i []).getD ((lJ w.S.P d m (R.getD i []) (j+1)).length+q) 0≠mO w.S.P (((R.getD i []).getD d []).getD q []) (j+1))
  a2:aO w (round+1+1) ((List.range n).map fl)=some h2
  eh2:∀ i,i < n→Hn w i→h2.getD i []=fl i
  f:F=(List.range n).map fun i=>got (h2.getD i []) n n
  v:∀ j,j < n→views.getD j []=v0.getD j []++yz round A0 j n++yz (round+1) A1 j n++vD (round+1+1) h2 j n
/-- the first half: what the dealers chose, what the parties hold -/
theorem AU {net:ap} [NeZero net.zw.S.P] {n t B:Nat} (s:Sc net.zw n t) (ht:t=1 ∨ t=2) (hn:n≤7) {q:List (List (List Nat))} {tp:Nat→List Nat} {ps:Nat→Nat} (Q:Qs net.zw.S.P n t q (rem n tp ps)) (hts:yn n net.am tp ps) (hv:VB n B net.au) (hB:B≤400) (hr:0≤net.ah∧net.ah≤900) :
    ∃ S R F views T,i4 net q=some (⟨S,R,F⟩,net.ah+1+1+1,views,T)∧yn n T tp (fun i=>ps i+(q.getD i []).length*(t*(t+1) / 2))∧Ss net.zw.S.P n t S∧(∀ d,d < n→S.getD d []=Sm q (rem n tp ps) t d)∧Rr net.zw.S.P n t (fun d=>(q.getD d []).length) R ∧
      (∀ d,d < n→Hn net.zw d→∀ i,i < n→∀ k,k < (q.getD d []).length→((R.getD i []).getD d []).getD k []=Rw net.zw.S.P ((Sm q (rem n tp ps) t d).getD k []) (i+1))∧Fl n F∧VB n (B+3*n) views ∧
      (net.zw.aa=[]→∀ i,i < n→∀ d,d < n→∀ j,((F.getD i []).getD d []).getD j 0=0) ∧
      (∀ i,i < n→Hn net.zw i→∀ j,j < n→Hn net.zw j→∀ d,d < n→∀ k,k < (q.getD d []).length→mO net.zw.S.P (((R.getD j []).getD d []).getD k []) (i+1)≠mO net.zw.S.P (((R.getD i []).getD d []).getD k []) (j+1)→((F.getD i []).getD d []).getD j 0≠0) ∧
      ∃ A0 A1 o0 h2 fl,Kw net.zw n t net.ah (fun d=>(q.getD d []).length) S R F net.au views A0 A1 o0 h2 fl:=by
  have hp:=s.sup
  have hlt:=hp.lt
  have ht2:t≤2:=by omega
  obtain ⟨T,S,e1,hT,c2,c3⟩:=zI (p:=net.zw.S.P) (ph:=⟨net,net.zw.S,q,⟨List.replicate n [],List.replicate n [],List.replicate n []⟩⟩) ht s.n13 s.N s.T Q hts rfl
  simp only at e1 c3
  have hSs:Ss net.zw.S.P n t S:=⟨c2,fun d hd=>by rw [c3 d hd,pZ];exact (Q.many d hd).1,fun d hd k hk=>by
    rw [c3 d hd] at hk ⊢
    rw [pZ] at hk
    exact (tR (by omega) ht Q hd hk).2.1⟩
  obtain ⟨all,v1,R,e2,a1,a2,a3,a4,a5,a6,xY,p1,p2,p3⟩:=uO (n:=n) (t:=t) (ph:=⟨⟨net.zw,net.ah,net.au,T⟩,net.zw.S,q,⟨S,List.replicate n [],List.replicate n []⟩⟩) s ht2 rfl hSs Q.len (fun d hd=>by
    show (q.getD d []).length=(S.getD d []).length
    rw [c3 d hd,pZ]) rfl hv.1 (fun j hj=>Nat.le_trans (hv.2 j hj) (by omega)) (by show 0≤net.ah∧net.ah≤1000;omega)
  simp only at e2 a2 a4 a6 p1 p2 p3
  have hRr:Rr net.zw.S.P n t (fun d=>(q.getD d []).length) R:=by
    refine ⟨a5,fun i hi=>by rw [a6 i hi];simp,fun i hi d hd=>by rw [a6 i hi,bv hd,mG,c3 d hd,pZ],fun d hd=>(Q.many d hd).1,fun i hi d hd k hk=>?_⟩
    rw [a6 i hi,bv hd,pg (by rw [c3 d hd,pZ];exact hk)]
    exact ⟨by simp,sx fun c _=>Lt.get hp.pos (a1.w d hd i hi).1 _⟩
  have hRw:∀ d,d < n→Hn net.zw d→∀ i,i < n→∀ k,k < (q.getD d []).length→((R.getD i []).getD d []).getD k []=Rw net.zw.S.P ((Sm q (rem n tp ps) t d).getD k []) (i+1):=fun d hd hh i hi k hk=>by
    have hk':k < (S.getD d []).length:=by rw [c3 d hd,pZ];exact hk
    rw [a6 i hi,bv hd,a2 d hd hh i hi,wI hp hSs ht2 hd (by omega) hk',c3 d hd]
  have hv1:=zy a3 a4 hv
  obtain ⟨all2,heard,v2,e3,b1,b2,b3,b4,b5,b6,b7⟩:=xJ (p:=net.zw.S.P) (n:=n) (t:=t) (m:=fun d=>(q.getD d []).length) (ph:=⟨⟨net.zw,net.ah+1,v1,T⟩,net.zw.S,q,⟨S,R,List.replicate n []⟩⟩) rfl s ht2 rfl hRr hv1 (by omega) (by show 0≤net.ah+1∧net.ah+1≤1000;omega)
  simp only at e3 b3 b5 b6
  have hv2:=zy b4 b5 hv1
  obtain ⟨all3,v3,e4,d1,d2,fl,d4,d5,d6,d7⟩:=wt (p:=net.zw.S.P) (n:=n) (t:=t) (m:=fun d=>(q.getD d []).length) (ph:=⟨⟨net.zw,net.ah+1+1,v2,T⟩,net.zw.S,q,⟨S,R,List.replicate n []⟩⟩) rfl s hn ht2 rfl Q.len (fun d hd=>rfl) hRr rfl b1 b2 hv2 (by omega) (by show 0≤net.ah+1+1∧net.ah+1+1≤1000;omega)
  simp only at e4 d2 d4 d5 d6 d7
  refine ⟨S,R,(List.range n).map fun i=>got (all3.getD i []) n n,v3,T,?_,hT,hSs,c3,hRr,hRw,⟨by simp,fun i hi=>by rw [bv hi,mG],fun i hi d hd=>by rw [bv hi,pg hd];simp⟩,⟨d1.1,fun j hj=>Nat.le_trans (d1.2 j hj) (by omega)⟩,fun hd=>?_,fun i hi hhi j hj hhj d hd k hk hne=>?_,all,all2,xY,all3,fl,?_⟩
  · unfold i4 bI
    rw [bS,s.N,cK (by omega) (by omega) (by omega) (by omega),bS,cK (by omega) (by omega) (by omega) (by omega),bS,Int.toNat_natCast,e1,bS]
    simp only
    rw [e2,bS]
    simp only
    rw [e3,bS]
    simp only
    rw [e4,bS]
  · have z1:=d2 hd (fun i hi j hj hji=>by
      rw [b3 i hi j hj (.inr hd)]
      unfold lJ
      congr 1
      refine List.map_congr_left fun d hdd=>?_
      have hdn:d < n:=by simpa using hdd
      refine List.map_congr_left fun k hkk=>?_
      have hk:k < (q.getD d []).length:=by simpa using hkk
      obtain ⟨_,mm,ms⟩:=tR (p:=net.zw.S.P) (by omega) ht Q hdn hk
      rw [hRw d hdn (.inr hd) j hj k hk,hRw d hdn (.inr hd) i hi k hk]
      exact vP hp mm ms (by omega) (by omega) (by omega))
    intro i hi d hdn j
    rw [bv hi,pg hdn]
    by_cases g:j < n
    · rw [bv g];exact z1 i hi _
    · exact pe (by simp;omega)
  · have hji:j≠i:=fun e=>by subst e;exact hne rfl
    rw [bv hi,Bq hd hj]
    rw [d7 i hi hhi]
    refine ((d6 i hi).2.2 j hj d hd).2 ⟨hji,k,hk,?_⟩
    rw [b3 i hi j hj hhj,Ft (A:=R.getD i []) (B:=R.getD j []) (x:=j+1) (y:=i+1),tM hd hk]
    exact hne
  · refine ⟨p1,p2,p3,fun i hi=>by rw [a6 i hi];exact List.map_congr_left fun d hd=>by rw [c3 d (by simpa using hd),pZ],b6,fun i hi=>⟨(d6 i hi).1,(d6 i hi).2.1,fun j hj d hd=>by rw [← b7 i hi j hj];exact (d6 i hi).2.2 j hj d hd⟩,d4,d7,rfl,fun j hj=>?_⟩
    rw [d5 j hj,b5 j hj,a4 j hj]
end Pu

/- Plain laws of chapter 19: the disputed pairs, the dealers' answers. -/
set_option linter.unusedVariables false
namespace Pu
open Gw Gl Sp
theorem ya {α:Type} {body:Nat→List α→Option (List α)} (c:Nat→Bool) (x:Nat→α) {l:List α}:∀ {n:Nat},(∀ j l',j < n→l'.length≤l.length+j→body j l'=some (if c j then l'++[x j] else l'))→dU body n 0 l=some (l++((List.range n).filter c).map x):=fun {n} h=>by
  obtain ⟨r,e,h2⟩:=bw (body:=body) (fun k r=>r=l++((List.range k).filter c).map x) (rem:=n) (k:=0) (s:=l) (by simp) (fun j r _ hj hr=>by
    have hl:r.length≤l.length+j:=by
      rw [hr,List.length_append,List.length_map]
      have:=List.length_filter_le c (List.range j)
      rw [List.length_range] at this
      omega
    refine ⟨_,h j r (by omega) hl,?_⟩
    rw [hr,List.range_succ,List.filter_append,List.map_append]
    cases hc:c j
    · simp [hc]
    · simp [hc])
  rw [e,h2,Nat.zero_add]
theorem pc {α:Type} {v:Nat→List α} {w:Nat}:∀ {n:Nat},(∀ j,j < n→(v j).length≤w)→((List.range n).map v).flatten.length≤n*w
  | 0,_=>by simp
  | n+1,h=>by
    rw [List.range_succ,List.map_append,List.flatten_append,List.length_append,Nat.add_mul]
    have:=pc (v:=v) (w:=w) (n:=n) (fun j hj=>h j (by omega))
    have:=h n (by omega)
    have e:(List.map v [n]).flatten=v n:=by simp
    rw [e];omega
/-- the disputed pairs of dealer d among the parties before k -/
def m4 (F:List (List (List Nat))) (n d k:Nat):List bK:=((List.range k).map fun i=>((List.range n).filter fun j=>decide ((((F.getD i []).getD d []).getD j 0)≠0)).map fun j=>(⟨((i:Nat):Int),((j:Nat):Int)⟩:bK)).flatten
theorem tE {F:List (List (List Nat))} {n d k:Nat}:(m4 F n d k).length≤k*n:=pc fun i _=>by
  rw [List.length_map]
  have:=List.length_filter_le (fun j=>decide ((((F.getD i []).getD d []).getD j 0)≠0)) (List.range n)
  rw [List.length_range] at this
  exact this
theorem vC {F:List (List (List Nat))} {n d k:Nat} {x:bK} (h:x ∈ m4 F n d k):∃ i j,i < k∧j < n∧((F.getD i []).getD d []).getD j 0≠0∧x=⟨((i:Nat):Int),((j:Nat):Int)⟩:=by
  unfold m4 at h
  obtain ⟨l,hl,hx⟩:=List.mem_flatten.1 h
  obtain ⟨i,hi,rfl⟩:=List.mem_map.1 hl
  obtain ⟨j,hj,rfl⟩:=List.mem_map.1 hx
  obtain ⟨h1,h2⟩:=List.mem_filter.1 hj
  exact ⟨i,j,by simpa using hi,by simpa using h1,of_decide_eq_true h2,rfl⟩
theorem getD_in {α:Type} {l:List α} {q:Nat} {d:α} (h:q < l.length):l.getD q d ∈ l:=by
  rw [List.getD_eq_getElem?_getD,List.getElem?_eq_getElem h];exact List.getElem_mem h
theorem qf {c:av} {n d:Nat} (hR:c.zd.Rows.length=n) (f:Fl n c.zd.az) (hn:n≤7) (hd:d < n):fi c ((d:Nat):Int)=some (m4 c.zd.az n d n):=by
  have hmx:max 0 ((n:Nat):Int).toNat=n:=by simp
  have hnn:n*n≤7*7:=Nat.mul_le_mul hn hn
  unfold fi a9
  rw [hR,bS,hmx,cq (by omega),bS,Nat.sub_zero]
  have e:dU (fun k1 (st:(List bK))=>ji c ((d:Nat):Int) k1 st) n 0 ([]:List bK)=some (m4 c.zd.az n d n):=qv (fun i=>((List.range n).filter fun j=>decide ((((c.zd.az.getD i []).getD d []).getD j 0)≠0)).map fun j=>(⟨((i:Nat):Int),((j:Nat):Int)⟩:bK)) (fun i l hi hl=>by
    have hll:l.length≤i*n:=by rw [hl];exact tE (F:=c.zd.az) (d:=d)
    have hin:i*n≤n*n:=Nat.mul_le_mul_right _ (by omega)
    have hw:=f.w i hi d hd
    unfold ji
    rw [ix [] (by rw [f.len];exact hi),bS,aT [] (by omega) (by rw [f.row i hi];omega),bS,Int.toNat_natCast,hw,Nat.sub_zero,ya (fun j=>decide ((((c.zd.az.getD i []).getD d []).getD j 0)≠0)) (fun j=>(⟨((i:Nat):Int),((j:Nat):Int)⟩:bK)) (fun j l' hj hl'=>by
      unfold ly
      rw [ix 0 (by omega),bS]
      by_cases g:((c.zd.az.getD i []).getD d []).getD j 0=0
      · rw [qF (by omega),cF,if_neg (fun h=>(of_decide_eq_true h) g)]
      · rw [qT (by omega),cT,aS (by simp only [List.length_cons,List.length_nil];omega) (by simp only [List.length_cons,List.length_nil];omega),bS,if_pos (decide_eq_true g)]),bS])
  rw [e,bS]
theorem uU {i:Nat} (h:i≤1000):pz ((i:Nat):Int)=some (i+1):=by
  unfold pz
  have hu:qP (((i:Nat):Int)+1)=i+1:=by unfold qP;omega
  rw [bh (by omega) (by omega),bS,bS,hu]
theorem xk {l:List Nat} {m:Nat} (hl:l.length≤1000) (hm:m≤1000):iF ⟨l⟩ ((m:Nat):Int)=some ((List.range m).map fun c=>l.getD c 0,l.drop m):=by
  obtain ⟨r,er,r1,r2⟩:=oQ (l:=l) (m:=m) hm
  have hr:r=(List.range m).map fun c=>l.getD c 0:=by
    refine List.ext_getElem? fun i=>?_
    by_cases g:i < m
    · rw [ix 0 (by omega),r2 i g,List.getElem?_map,List.getElem?_range g];rfl
    · rw [List.getElem?_eq_none (by omega),List.getElem?_eq_none (by simp;omega)]
  have hmin:min ((m:Nat):Int) ((l.length:Nat):Int)=((min m l.length:Nat):Int):=by omega
  unfold iF
  simp only
  rw [er,bS,bS,hmin,iy (by omega) (by omega) (by omega),bS,hr]
  simp only [Int.toNat_natCast]
  rw [List.take_of_length_le (by rw [List.length_drop];omega)]
  by_cases g:m≤l.length
  · rw [Nat.min_eq_left g]
  · rw [Nat.min_eq_right (by omega),List.drop_eq_nil_of_le (Nat.le_refl _),List.drop_eq_nil_of_le (by omega)]
theorem wJ {l:List Nat} {w q:Nat}:got l w q++[(List.range w).map fun c=>(l.drop (q*w)).getD c 0]=got l w (q+1):=by
  unfold got
  rw [List.range_succ,List.map_append]
  congr 1
  simp only [List.map_cons,List.map_nil]
  congr 1
  refine List.map_congr_left fun k _=>?_
  rw [List.getD_eq_getElem?_getD,List.getElem?_drop,← List.getD_eq_getElem?_getD]
/-- the value at a pair -/
def HO (p:Nat) (M:List (List Nat)) (x:bK):Nat:=mO p (Rw p M (x.e0.toNat+1)) (x.e1.toNat+1)
/-- what a dealer answers -/
def uw (p:Nat) (S:List (List (List Nat))) (l:List bK):List Nat:=((List.range l.length).map fun q=>(List.range S.length).map fun k=>HO p (S.getD k []) (l.getD q ⟨0,0⟩)).flatten
/-- the court has a sound state -/
structure Cs (p n t:Nat) (c:av):Prop where
  P:c.zp=p
  pw:c.zn.zw.S.P=p
  sc:Sc c.zn.zw n t
  n7:n≤7
  t2:t≤2
  S:Ss p n t c.zd.S
  R:Rr p n t (fun d=>(c.zd.S.getD d []).length) c.zd.Rows
  F:Fl n c.zd.az
section
variable {p:Nat} [NeZero p] {n t:Nat}
theorem AG (hp:fW p) {mm:Nat} {M:List (List Nat)} {x y:Nat} (hM:xw p mm mm M) (hm:mm≤10) (hx:x < p) (hy:y < p):kQ p M x y=some (mO p (Rw p M x) y)∧mO p (Rw p M x) y < p:=by
  obtain ⟨e,_,hl,ht,_⟩:=ni hp hM hm hx
  obtain ⟨e2,h2,_⟩:=iR hp ht hy (by omega)
  unfold kQ
  rw [e,bS,e2,bS]
  exact ⟨rfl,h2⟩
theorem xz {c:av} (cs:Cs p n t c) {B:Nat} (hv:VB n B c.zn.au) (hB:B≤500) (hr:0≤c.zn.ah∧c.zn.ah≤1000) :
    ∃ (heard:List (List Nat)) (views:List (List al)),jt c=some ((List.range n).map fun d=>got (heard.getD d []) (c.zd.S.getD d []).length (m4 c.zd.az n d n).length,c.zn.ah+1,views)∧Bl p n 490 heard ∧
      (∀ d,d < n→Hn c.zn.zw d→heard.getD d []=uw p (c.zd.S.getD d []) (m4 c.zd.az n d n))∧VB n (B+n) views ∧
      aO c.zn.zw c.zn.ah ((List.range n).map fun d=>uw p (c.zd.S.getD d []) (m4 c.zd.az n d n))=some heard∧∀ j,j < n→views.getD j []=c.zn.au.getD j []++vD c.zn.ah heard j n:=by
  have hp:fW p:=by rw [← cs.pw];exact cs.sc.sup
  have hlt:=hp.lt
  have hn:=cs.n7
  have ht:=cs.t2
  have hRl:c.zd.Rows.length=n:=cs.R.len
  have hmx:max 0 ((n:Nat):Int).toNat=n:=by simp
  have hnn:n*n≤7*7:=Nat.mul_le_mul hn hn
  have hin:∀ d q,q < (m4 c.zd.az n d n).length→∃ i j,i < n∧j < n∧(m4 c.zd.az n d n).getD q ⟨0,0⟩=⟨((i:Nat):Int),((j:Nat):Int)⟩:=fun d q hq=>by
    obtain ⟨i,j,h1,h2,_,h3⟩:=vC (getD_in (d:=(⟨0,0⟩:bK)) hq)
    exact ⟨i,j,h1,h2,h3⟩
  have hsl:∀ d,d < n→Lt p (uw p (c.zd.S.getD d []) (m4 c.zd.az n d n))∧(uw p (c.zd.S.getD d []) (m4 c.zd.az n d n)).length≤490:=fun d hd=>by
    have hm:=cs.S.many d hd
    have hdl:=tE (F:=c.zd.az) (n:=n) (d:=d) (k:=n)
    refine ⟨rW fun q hq=>sx fun k hk=>?_,?_⟩
    · obtain ⟨i,j,hi,hj,e⟩:=hin d q hq
      rw [e]
      exact (AG hp (cs.S.mat d hd k hk) (by omega) (by show i+1 < p;omega) (by show j+1 < p;omega)).2
    · have:=pc (n:=(m4 c.zd.az n d n).length) (w:=10) (v:=fun q=>(List.range (c.zd.S.getD d []).length).map fun k=>HO p ((c.zd.S.getD d []).getD k []) ((m4 c.zd.az n d n).getD q ⟨0,0⟩)) (fun q _=>by simp;exact hm)
      exact Nat.le_trans this (by omega)
  have e1:dU (fun k1 (st:(List (List Nat)))=>jM c k1 st) n 0 ([]:List (List Nat))=some ((List.range n).map fun d=>uw p (c.zd.S.getD d []) (m4 c.zd.az n d n)):=fU _ (fun d l hd hl=>by
    have hm:=cs.S.many d hd
    have hdl:=tE (F:=c.zd.az) (n:=n) (d:=d) (k:=n)
    unfold jM
    rw [qf hRl cs.F hn hd,bS,Nat.sub_zero]
    have e2:dU (fun k2 (st:(List Nat))=>jN c d (m4 c.zd.az n d n) k2 st) (m4 c.zd.az n d n).length 0 ([]:List Nat)=some (uw p (c.zd.S.getD d []) (m4 c.zd.az n d n)):=qv (fun q=>(List.range (c.zd.S.getD d []).length).map fun k=>HO p ((c.zd.S.getD d []).getD k []) ((m4 c.zd.az n d n).getD q ⟨0,0⟩)) (fun q l' hq hl'=>by
      have hll:l'.length≤q*10:=by rw [hl'];exact pc fun _ _=>by simp;exact hm
      obtain ⟨i,j,hi,hj,e⟩:=hin d q hq
      unfold jN
      rw [ix ⟨0,0⟩ hq,bS,ix [] (by rw [cs.S.len];exact hd),bS,Nat.sub_zero,xf (fun k=>HO p ((c.zd.S.getD d []).getD k []) ((m4 c.zd.az n d n).getD q ⟨0,0⟩)) (fun k l2 hk hl2=>by
        have hl3:l2.length≤600:=by rw [hl2,List.length_append,List.length_map,List.length_range];omega
        unfold mj
        rw [ix [] hk,bS,e]
        simp only
        rw [uU (by omega),bS,uU (by omega),bS,cs.P,(AG hp (cs.S.mat d hd k hk) (by omega) (by omega) (by omega)).1,bS,aS (by simp only [List.length_cons,List.length_nil];omega) (by simp only [List.length_cons,List.length_nil];omega),bS]
        rfl),bS])
    rw [e2,bS,aS (by simp only [List.length_cons,List.length_nil];omega) (by simp only [List.length_cons,List.length_nil];omega),bS])
  have hbl:Bl c.zn.zw.S.P n 490 ((List.range n).map fun d=>uw p (c.zd.S.getD d []) (m4 c.zd.az n d n)):=⟨by simp,fun d hd=>by rw [bv hd,cs.pw];exact hsl d hd⟩
  obtain ⟨heard,views,e3,b1,b2,b3,b5,b6⟩:=yp cs.sc hbl (by omega) hv hB hr
  rw [cs.pw] at b1
  refine ⟨heard,views,?_,b1,fun d hd hh=>by rw [b2 d hd hh,bv hd],b3,b5,b6⟩
  unfold jt a9
  rw [hRl,bS,hmx,cq (by omega),bS,Nat.sub_zero,e1,bS,e3,bS]
  simp only
  rw [hRl,bS,hmx,cq (by omega),bS,Nat.sub_zero,fU (fun d=>got (heard.getD d []) (c.zd.S.getD d []).length (m4 c.zd.az n d n).length) (fun d l hd hl=>by
    have hm:=cs.S.many d hd
    have hdl:=tE (F:=c.zd.az) (n:=n) (d:=d) (k:=n)
    have hhl:=(b1.w d hd).2
    unfold ml
    simp only
    rw [ix [] (by rw [b1.len];exact hd),bS,qf (c:=⟨⟨c.zn.zw,c.zn.ah+1,views,c.zn.am⟩,c.zp,c.zd,c.aL,c.bJ,c.cH⟩) hRl cs.F hn hd,bS,Nat.sub_zero]
    obtain ⟨⟨l1,l2⟩,e4,g1,g2⟩:=bw (body:=fun k5 (st:(List Nat) × (List (List Nat)))=>fx c (heard,c.zn.ah+1,views) d k5 st.1 st.2) (rem:=(m4 c.zd.az n d n).length) (k:=0) (s:=(heard.getD d [],([]:List (List Nat))))
      (fun q st=>st.1=(heard.getD d []).drop (q*(c.zd.S.getD d []).length)∧st.2=got (heard.getD d []) (c.zd.S.getD d []).length q) ⟨by simp,rfl⟩ (fun q st _ hq ⟨g1,g2⟩=>by
        obtain ⟨l1,l2⟩:=st
        simp only at g1 g2
        subst g1;subst g2
        unfold fx fP
        simp only
        rw [aT [] (by omega) (by rw [cs.S.len];omega),bS,bS,Int.toNat_natCast,xk (by rw [List.length_drop];omega) (by omega),bS]
        simp only
        rw [aS (by rw [mG];simp only [List.length_cons,List.length_nil];omega) (by rw [mG];simp only [List.length_cons,List.length_nil];omega),bS]
        refine ⟨_,rfl,?_,?_⟩
        · show ((heard.getD d []).drop _).drop _=_
          rw [List.drop_drop,Nat.add_mul,Nat.one_mul]
        · exact wJ)
    rw [Nat.zero_add] at g2
    simp only at g2
    rw [e4,bS]
    simp only
    rw [g2,aS (by simp only [List.length_cons,List.length_nil];omega) (by simp only [List.length_cons,List.length_nil];omega),bS]),bS]
end
/-- an honest dealer's answers -/
theorem Cf {p:Nat} {S:List (List (List Nat))} {l:List bK} {q k:Nat} (hq:q < l.length) (hk:k < S.length):((got (uw p S l) S.length l.length).getD q []).getD k 0=HO p (S.getD k []) (l.getD q ⟨0,0⟩):=by
  rw [Bq hq hk]
  unfold uw
  rw [flat_get (w:=S.length) (fun j _=>by simp) hq hk,bv hk]
end Pu

/- Plain laws of chapter 19: accusations, votes. -/
set_option linter.unusedVariables false
namespace Pu
open Gw Gl Sp
theorem qu {body:Nat→Unit→Option (Out Unit Bool)} {n:Nat} (V:Nat→Prop) (h:∀ k,k < n→(body k ()=some (.fin true)∧V k) ∨ (body k ()=some (.go ())∧¬ V k)) :
    (nq body n 0 ()=some (.fin true)∧∃ k,k < n∧V k) ∨ (nq body n 0 ()=some (.go ())∧∀ k,k < n→¬ V k):=by
  obtain ⟨o,e,ho⟩:=dM (body:=body) (fun k _=>∀ j,j < k→¬ V j) (fun b=>b=true∧∃ k,k < n∧V k) (rem:=n) (k:=0) (s:=()) (fun j hj=>by omega) (fun k s _ hk hI=>by
    have hkn:k < n:=by omega
    rcases h k hkn with ⟨e,hV⟩ | ⟨e,hV⟩
    · exact ⟨_,e,rfl,k,hkn,hV⟩
    · refine ⟨_,e,fun j hj=>?_⟩
      by_cases g:j=k
      · subst g;exact hV
      · exact hI j (by omega))
  cases o with
  | fin b => obtain ⟨h1, h2⟩ := ho
             subst h1
             exact .inl ⟨e,h2⟩
  | go u=>exact .inr ⟨e,fun k hk=>ho k (by omega)⟩
/-- the other members of a pair -/
def uJ (x:bK) (i:Nat):List Int:=(if x.e0=((i:Nat):Int) then [x.e1] else [])++(if x.e1=((i:Nat):Int) then [x.e0] else [])
theorem z7 {x:bK} {i:Nat}:pA x ((i:Nat):Int)=some (uJ x i):=by
  unfold pA uJ
  by_cases g:x.e0=((i:Nat):Int)
  · rw [eT g,cT,if_pos g,aS (by simp) (by simp),bS,bS]
    by_cases g2:x.e1=((i:Nat):Int)
    · rw [eT g2,cT,if_pos g2,aS (by simp) (by simp),bS];rfl
    · rw [eF g2,cF,if_neg g2];rfl
  · rw [eF g,cF,if_neg g,bS]
    by_cases g2:x.e1=((i:Nat):Int)
    · rw [eT g2,cT,if_pos g2,aS (by simp) (by simp),bS]
    · rw [eF g2,cF,if_neg g2];rfl
theorem BU {x:bK} {i r:Nat} (h:r < (uJ x i).length):((uJ x i).getD r 0=x.e1∧x.e0=((i:Nat):Int)) ∨ ((uJ x i).getD r 0=x.e0∧x.e1=((i:Nat):Int)):=by
  have h2:=getD_in (d:=(0:Int)) h
  generalize (uJ x i).getD r 0=y at h2
  unfold uJ at h2
  rcases List.mem_append.1 h2 with h3 | h3
  · by_cases g:x.e0=((i:Nat):Int)
    · rw [if_pos g] at h3;exact .inl ⟨by simpa using h3,g⟩
    · rw [if_neg g] at h3;simp at h3
  · by_cases g:x.e1=((i:Nat):Int)
    · rw [if_pos g] at h3;exact .inr ⟨by simpa using h3,g⟩
    · rw [if_neg g] at h3;simp at h3
/-- an answer of dealer d contradicts the rows of party i -/
def Wr (p n:Nat) (z:aF) (i d:Nat) (ans:List (List Nat)):Prop:=∃ q,q < (m4 z.az n d n).length∧∃ r,r < (uJ ((m4 z.az n d n).getD q ⟨0,0⟩) i).length∧∃ k,k < (z.S.getD d []).length ∧
  mO p (((z.Rows.getD i []).getD d []).getD k []) (((uJ ((m4 z.az n d n).getD q ⟨0,0⟩) i).getD r 0).toNat+1)≠(ans.getD q []).getD k 0
theorem BX {p n t:Nat} {c:av} (cs:Cs p n t c) {i d k:Nat} (hi:i < n) (hd:d < n) (hk:k < (c.zd.S.getD d []).length):kn c ((i:Nat):Int) ((d:Nat):Int) ((k:Nat):Int)=some (((c.zd.Rows.getD i []).getD d []).getD k []):=by
  unfold kn
  rw [aT [] (by omega) (by rw [cs.R.len];omega),bS,Int.toNat_natCast,aT [] (by omega) (by rw [cs.R.row i hi];omega),bS,Int.toNat_natCast,aT [] (by omega) (by rw [cs.R.many i hi d hd];omega),bS,Int.toNat_natCast]
section
variable {p:Nat} [NeZero p] {n t:Nat}
theorem yi {c:av} (cs:Cs p n t c) {i d:Nat} (hi:i < n) (hd:d < n) {ans:List (List Nat)} (h1:ans.length=(m4 c.zd.az n d n).length) (h2:∀ q,q < ans.length→(ans.getD q []).length=(c.zd.S.getD d []).length) :
    ∃ b,ju c ((i:Nat):Int) ((d:Nat):Int) ans=some b∧(b=true ↔ Wr p n c.zd i d ans):=by
  have hp:fW p:=by rw [← cs.pw];exact cs.sc.sup
  have hlt:=hp.lt
  have hn:=cs.n7
  have ht:=cs.t2
  unfold ju
  rw [qf cs.R.len cs.F hn hd,bS,Nat.sub_zero]
  have key:=qu (body:=fun k1 (st:Unit)=>jO c ((i:Nat):Int) ((d:Nat):Int) ans (m4 c.zd.az n d n) k1) (n:=(m4 c.zd.az n d n).length)
    (fun q=>∃ r,r < (uJ ((m4 c.zd.az n d n).getD q ⟨0,0⟩) i).length∧∃ k,k < (c.zd.S.getD d []).length∧mO p (((c.zd.Rows.getD i []).getD d []).getD k []) (((uJ ((m4 c.zd.az n d n).getD q ⟨0,0⟩) i).getD r 0).toNat+1)≠(ans.getD q []).getD k 0) (fun q hq=>by
      have hx:∃ a b,a < n∧b < n∧(m4 c.zd.az n d n).getD q ⟨0,0⟩=⟨((a:Nat):Int),((b:Nat):Int)⟩:=by
        obtain ⟨a,b,h1,h2,_,h3⟩:=vC (getD_in (d:=(⟨0,0⟩:bK)) hq)
        exact ⟨a,b,h1,h2,h3⟩
      unfold jO
      rw [ix ⟨0,0⟩ hq,bS,z7,bS,Nat.sub_zero]
      generalize (m4 c.zd.az n d n).getD q ⟨0,0⟩=x at hx
      obtain ⟨a,b,ha,hb,hx⟩:=hx
      have key2:=qu (body:=fun k2 (st:Unit)=>jP c ((i:Nat):Int) ((d:Nat):Int) ans q (uJ x i) k2) (n:=(uJ x i).length)
        (fun r=>∃ k,k < (c.zd.S.getD d []).length∧mO p (((c.zd.Rows.getD i []).getD d []).getD k []) (((uJ x i).getD r 0).toNat+1)≠(ans.getD q []).getD k 0) (fun r hr=>by
          have hj:∃ j,j < n∧(uJ x i).getD r 0=((j:Nat):Int):=by
            rcases BU hr with ⟨e,_⟩ | ⟨e,_⟩
            · exact ⟨b,hb,by rw [e,hx]⟩
            · exact ⟨a,ha,by rw [e,hx]⟩
          unfold jP
          rw [ix 0 hr,bS,ix [] (by omega),bS,Nat.sub_zero,h2 q (by omega)]
          generalize (uJ x i).getD r 0=y at hj
          obtain ⟨j,hjn,rfl⟩:=hj
          have key3:=qu (body:=fun k3 (st:Unit)=>jQ c ((i:Nat):Int) ((d:Nat):Int) ((j:Nat):Int) (ans.getD q []) k3) (n:=(c.zd.S.getD d []).length)
            (fun k=>mO p (((c.zd.Rows.getD i []).getD d []).getD k []) (((j:Nat):Int).toNat+1)≠(ans.getD q []).getD k 0) (fun k hk=>by
              obtain ⟨w1,w2⟩:=cs.R.w i hi d hd k hk
              unfold jQ
              rw [ix 0 (by rw [h2 q (by omega)];exact hk),bS,BX cs hi hd hk,bS,uU (by omega),bS,cs.P,(iR hp w2 (by omega) (by omega)).1,bS,Int.toNat_natCast]
              by_cases g:mO p (((c.zd.Rows.getD i []).getD d []).getD k []) (j+1)=(ans.getD q []).getD k 0
              · rw [qF (by omega),cF];exact .inr ⟨rfl,fun h=>h g⟩
              · rw [qT (by omega),cT];exact .inl ⟨rfl,g⟩)
          rcases key3 with ⟨e,h⟩ | ⟨e,h⟩
          · rw [e,bS,oF];exact .inl ⟨rfl,h⟩
          · rw [e,bS,oG];exact .inr ⟨rfl,fun ⟨k,hk,hV⟩=>h k hk hV⟩)
      rcases key2 with ⟨e,h⟩ | ⟨e,h⟩
      · rw [e,bS,oF];exact .inl ⟨rfl,h⟩
      · rw [e,bS,oG];exact .inr ⟨rfl,fun ⟨r,hr,hV⟩=>h r hr hV⟩)
  rcases key with ⟨e,h⟩ | ⟨e,h⟩
  · rw [e,bS,oF];exact ⟨true,rfl,fun _=>h,fun _=>rfl⟩
  · rw [e,bS,oG];exact ⟨false,rfl,fun h'=>(by cases h'),fun ⟨q,hq,hV⟩=>absurd hV (h q hq)⟩
end
/-- a vote, whatever the parties say -/
def zA (c:av) (says:Nat→Nat→Option Bool):Option ((List (List Bool)) × Int × (List (List al))) :=
  a9 c >>= fun r1 =>
  pa (max 0 (r1).toNat) >>= fun u1 =>
  dU (fun k1 (st:(List (List Nat)))=>dU (fun k2 (st:(List Nat))=>says k1 k2 >>= fun r4=>bif r4 then dk 8 st ([1]:List Nat) >>= fun l5=>some l5 else dk 8 st ([0]:List Nat) >>= fun l6=>some l6) ((max 0 (r1).toNat) - 0) 0 ([]:List Nat) >>= fun l4=>dk 24 st ([l4]:List (List Nat)) >>= fun l7=>some l7) ((max 0 (r1).toNat) - 0) 0 ([]:List (List Nat)) >>= fun l2 =>
  ce c.zn l2 >>= fun r5 =>
  a9 (⟨(⟨c.zn.zw,r5.2.1,r5.2.2,c.zn.am⟩:ap),c.zp,c.zd,c.aL,c.bJ,c.cH⟩:av) >>= fun r6 =>
  pG 24 r6 r6 ([]:List Bool) >>= fun l8 =>
  dU (fun k3 (st:(List (List Bool)))=>dK r5 r6 k3 st) (l8.length - 0) 0 l8 >>= fun l10 =>
  some (l10,r5.2.1,r5.2.2)
theorem IW (c:av) (x:List (List (List Nat))):eD c x=zA c (fun i d=>gC ((i:Nat):Int) ((d:Nat):Int) c x):=rfl
theorem IX (c:av):dx c=zA c (fun i d=>cZ c ((i:Nat):Int) ((d:Nat):Int)):=rfl
/-- what has been voted is square -/
def Ac (n:Nat) (a:List (List Bool)):Prop:=a.length=n∧∀ d,d < n→(a.getD d []).length=n
theorem zB {c:av} {n t:Nat} (s:Sc c.zn.zw n t) (hn:n≤7) (hR:c.zd.Rows.length=n) {says:Nat→Nat→Option Bool} {b:Nat→Nat→Bool} (hs:∀ i,i < n→∀ d,d < n→says i d=some (b i d)) {B:Nat} (hv:VB n B c.zn.au) (hB:B≤500) (hr:0≤c.zn.ah∧c.zn.ah≤1000) :
    ∃ (acc:List (List Bool)) (views:List (List al)),zA c says=some (acc,c.zn.ah+1,views)∧Ac n acc∧(∀ i,i < n→Hn c.zn.zw i→∀ d,d < n→(acc.getD d []).getD i false=b i d)∧VB n (B+n) views ∧
      ∃ h,aO c.zn.zw c.zn.ah ((List.range n).map fun i=>(List.range n).map fun d=>if b i d then 1 else 0)=some h∧(∀ d,d < n→∀ i,i < n→(acc.getD d []).getD i false=((((h.getD i []).getD d 0:Nat):Int) != 0))∧∀ j,j < n→views.getD j []=c.zn.au.getD j []++vD c.zn.ah h j n:=by
  have hlt:=s.sup.lt
  have hmx:max 0 ((n:Nat):Int).toNat=n:=by simp
  have hbl:Bl c.zn.zw.S.P n 7 ((List.range n).map fun i=>(List.range n).map fun d=>if b i d then 1 else 0):=⟨by simp,fun i hi=>by
    rw [bv hi]
    exact ⟨sx fun k _=>(by split <;> omega),by simp;exact hn⟩⟩
  obtain ⟨heard,views,e3,b1,b2,b3,b5,b6⟩:=yp s hbl (by omega) hv hB hr
  have hsay:∀ i,i < n→∀ d,d < n→((((List.range n).map fun i=>(List.range n).map fun d=>if b i d then 1 else 0).getD i []).getD d 0)=if b i d then 1 else 0:=fun i hi d hd=>by rw [bv hi,bv hd]
  refine ⟨(List.range n).map fun d=>(List.range n).map fun i=>((((heard.getD i []).getD d 0:Nat):Int) != 0),views,?_,⟨by simp,fun d hd=>by rw [bv hd];simp⟩,fun i hi hh d hd=>?_,b3,heard,b5,fun d hd i hi=>by rw [bv hd,bv hi],b6⟩
  · have e1:dU (fun k1 (st:(List (List Nat)))=>dU (fun k2 (st:(List Nat))=>says k1 k2 >>= fun r4=>bif r4 then dk 8 st ([1]:List Nat) >>= fun l5=>some l5 else dk 8 st ([0]:List Nat) >>= fun l6=>some l6) n 0 ([]:List Nat) >>= fun l4=>dk 24 st ([l4]:List (List Nat)) >>= fun l7=>some l7) n 0 ([]:List (List Nat))=some ((List.range n).map fun i=>(List.range n).map fun d=>if b i d then 1 else 0):=fU _ (fun i l hi hl=>by
      rw [fU (fun d=>if b i d then 1 else 0) (fun d l2 hd hl2=>by
        rw [hs i hi d hd,bS]
        cases b i d
        · rw [cF,aS (by simp only [List.length_cons,List.length_nil];omega) (by simp only [List.length_cons,List.length_nil];omega),bS];rfl
        · rw [cT,aS (by simp only [List.length_cons,List.length_nil];omega) (by simp only [List.length_cons,List.length_nil];omega),bS];rfl),bS,aS (by simp only [List.length_cons,List.length_nil];omega) (by simp only [List.length_cons,List.length_nil];omega),bS])
    unfold zA a9
    rw [hR,bS,hmx,cq (by omega),bS,Nat.sub_zero,e1,bS,e3,bS]
    simp only
    rw [hR,bS,cK (by omega) (by omega) (by omega) (by omega),bS,Int.toNat_natCast,List.length_replicate,Nat.sub_zero,uu (fun d=>(List.range n).map fun i=>((((heard.getD i []).getD d 0:Nat):Int) != 0)) (fun d l hd hl h0=>by
      unfold dK
      rw [hmx,cq (by omega),bS,Nat.sub_zero,ut (fun i=>((((heard.getD i []).getD d 0:Nat):Int) != 0)) hd hl (fun q l' hq hl' hw=>by
        rw [h0] at hw
        simp only [List.length_nil] at hw
        obtain ⟨r,er,r1,r2⟩:=oQ (l:=heard.getD q []) (m:=n) (by omega)
        unfold gt
        simp only
        rw [Nat.zero_add,ix [] (by omega),bS,ix [] (by rw [b1.len];exact hq),bS,er,bS,ix 0 (by omega),bS,r2 d hd,aS (by simp only [List.length_cons,List.length_nil];omega) (by simp only [List.length_cons,List.length_nil];omega),bS,bS]),bS,h0,List.nil_append]),bS]
  · rw [bv hd,bv hi,b2 i hi hh,hsay i hi d hd]
    cases b i d <;> rfl
end Pu
