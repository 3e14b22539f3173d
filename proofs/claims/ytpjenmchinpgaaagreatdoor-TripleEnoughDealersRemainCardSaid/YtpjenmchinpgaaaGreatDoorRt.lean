/- Plain laws of chapter 22: what Prove returns. -/
import Derived.Test.YtpjenmchinpgaaaGreatDoorRf
set_option linter.unusedVariables false
namespace Pu
open Gw Gl Sp
theorem Pw {S:Type} {body:Nat→S→Option S} {a b:S} (h0:body 0 a=some b):cV body 1 0 a=some b:=by
  unfold cV
  rw [h0];rfl
theorem NL {S:Type} {body:Nat→S→Option S} {a b c:S} (h0:body 0 a=some b) (h1:body 1 b=some c):cV body 2 0 a=some c:=by
  unfold cV
  rw [h0]
  show cV body 1 1 b=_
  unfold cV
  rw [h1];rfl
section
variable {p:Nat} [NeZero p]
theorem mulN {a b:Nat} (h:a*b < 9223372036854775808):jl ((a:Nat):Int) ((b:Nat):Int)=some ((a*b:Nat):Int):=by
  unfold jl
  rw [← Int.natCast_mul]
  exact pM (by omega) (by omega)
theorem wg (hp:fX p) {t q:Nat} (ht:t≤3) (hqt:q < t) {r left:List Nat} {d:List (List Nat)} (hr:Lt p r) (hrl:r.length=t*t) (hl:left.length=2*t+1) (hll:Lt p left) (hd:d.length=t) :
    ∃ left' f,dJ p ((t:Nat):Int) r ((q+1:Nat):Int) left d=some (left',d.set q f)∧left'.length=2*t+1∧Lt p left'∧f.length=t+1∧Lt p f∧(∀ i,i < t→f.getD i 0=r.getD (q*t+i) 0)∧f.getD t 0=left.getD (q+1+t) 0 ∧
      ∀ i,o p (left'.getD i 0)=if q+1≤i∧i≤q+1+t then o p (left.getD i 0) - o p (f.getD (i - (q+1)) 0) else o p (left.getD i 0):=by
  have hlt0:=hp.lt
  have h1:q*t+t≤t*t:=by rw [← Nat.succ_mul];exact Nat.mul_le_mul_right t hqt
  have htt:t*t≤9:=Nat.le_trans (Nat.mul_le_mul ht ht) (by omega)
  have e1:((t:Nat):Int)+1=((t+1:Nat):Int):=by omega
  have e2:((q+1:Nat):Int) - 1=((q:Nat):Int):=by omega
  have e4:(q+1)*t=q*t+t:=Nat.succ_mul ..
  have e5:((q+1:Nat):Int)+((t:Nat):Int)=((q+1+t:Nat):Int):=by omega
  have e6:(((t+1:Nat):Int)).toNat=t+1:=rfl
  have hl8:((r.drop (q*t)).take t).length=t:=by rw [List.length_take,List.length_drop];omega
  have hg8:∀ i,i < t→((r.drop (q*t)).take t).getD i 0=r.getD (q*t+i) 0:=fun i hi=>by
    rw [List.getD_eq_getElem?_getD,List.getElem?_take,if_pos hi,List.getElem?_drop,← List.getD_eq_getElem?_getD]
  generalize hl8':(r.drop (q*t)).take t=l8 at *
  have hc:(iK (List.replicate (t+1) 0) l8).length=t+1:=(tW (n:=t+1) (i:=0) (f:=l8) (by omega)).1
  have hcg:∀ i,(iK (List.replicate (t+1) 0) l8).getD i 0=l8.getD i 0:=fun i=>(tW (n:=t+1) (i:=i) (f:=l8) (by omega)).2
  have hfl:((iK (List.replicate (t+1) 0) l8).set t (left.getD (q+1+t) 0)).length=t+1:=by rw [List.length_set];exact hc
  have hf1:∀ i,i < t→((iK (List.replicate (t+1) 0) l8).set t (left.getD (q+1+t) 0)).getD i 0=r.getD (q*t+i) 0:=fun i hi=>by
    rw [aL (by omega),if_neg (by omega),hcg,hg8 i hi]
  have hf2:((iK (List.replicate (t+1) 0) l8).set t (left.getD (q+1+t) 0)).getD t 0=left.getD (q+1+t) 0:=by
    rw [aL (by omega),if_pos rfl]
  unfold dJ
  rw [bk (by omega) (by omega),bS,e1,ck (by omega) (by omega) (by omega) (by omega),bS,e6,cD (by omega) (by omega),bS,e2,mulN (by omega),bS,mulN (by omega),bS,e4,eu (by omega) (by omega) (by omega),bS,Int.toNat_natCast,Int.toNat_natCast,Nat.add_sub_cancel_left,hl8',bk (by omega) (by omega),bS,e5,aX 0 (by omega) (by omega),bS,Int.toNat_natCast,aX 0 (by omega) (by omega),bS,bS,Int.toNat_natCast,Nat.sub_zero,hfl]
  generalize ((iK (List.replicate (t+1) 0) l8).set t (left.getD (q+1+t) 0))=f at *
  have hfp:Lt p f:=fun i hi=>by
    by_cases g:i < t
    · rw [hf1 i g];exact hr.get hp.pos _
    · have:i=t:=by omega
      subst this;rw [hf2];exact hll.get hp.pos _
  obtain ⟨l,el,l1,l2,l3⟩:=bo (body:=fun k2 (st:(List Nat))=>j7 p ((q+1:Nat):Int) f k2 st) (fun k l=>l.length=2*t+1∧Lt p l∧∀ i,o p (l.getD i 0)=if q+1≤i∧i < q+1+k then o p (left.getD i 0) - o p (f.getD (i - (q+1)) 0) else o p (left.getD i 0)) (rem:=t+1) (k:=0) (s:=left)
    ⟨hl,hll,fun i=>by rw [if_neg (by omega)]⟩ (fun k l _ hk ⟨l1,l2,l3⟩=>by
      have e7:((q+1:Nat):Int)+((k:Nat):Int)=((q+1+k:Nat):Int):=by omega
      unfold j7
      rw [ix 0 (by omega),bS,bk (by omega) (by omega),bS,e7,aX 0 (by omega) (by omega),bS,Int.toNat_natCast,Ah hp (l2.get hp.pos _) (hfp.get hp.pos _),bS,bS]
      refine ⟨_,rfl,by rw [List.length_set];exact l1,fun i hi=>?_,fun i=>?_⟩
      · rw [aL (by omega)]
        split
        · exact Nat.mod_lt _ hp.pos
        · exact l2.get hp.pos i
      · rw [aL (by omega)]
        by_cases g:q+1+k=i
        · subst g
          have h3:=l3 (q+1+k)
          rw [if_neg (by omega)] at h3
          rw [if_pos rfl,if_pos (by omega),zY (hfp.get hp.pos _),h3,Nat.add_sub_cancel_left]
        · rw [if_neg g,l3 i]
          by_cases g2:q+1≤i∧i < q+1+k
          · rw [if_pos g2,if_pos (by omega)]
          · rw [if_neg g2,if_neg (by omega)])
  rw [Nat.zero_add] at l3
  rw [el,bS,aX [] (by omega) (by omega),bS,bS,Int.toNat_natCast]
  refine ⟨l,f,rfl,l1,l2,hfl,hfp,hf1,hf2,fun i=>?_⟩
  rw [l3 i]
  by_cases g:q+1≤i∧i < q+1+(t+1)
  · rw [if_pos g,if_pos (by omega)]
  · rw [if_neg g,if_neg (by omega)]
/-- the proof of a product -/
structure Pf (p:Nat) [NeZero p] (t:Nat) (a b:List Nat) (D:Nat→List Nat) (c:List Nat):Prop where
  dw:∀ k,k < t→(D k).length=t+1∧Lt p (D k)
  cl:c.length=t+1
  cw:Lt p c
  eq:∀ x,cc (P p a) x*cc (P p b) x=sm t (fun k=>x ^ (k+1)*cc (P p (D k)) x)+cc (P p c) x
theorem Gz (hp:fX p) {t:Nat} (ht:t=1 ∨ t=2) {a b r:List Nat} (ha:Lt p a) (hb:Lt p b) (hr:Lt p r) (hal:a.length=t+1) (hbl:b.length=t+1) (hrl:r.length=t*t) :
    ∃ D c,fN p ((t:Nat):Int) a b r=some (D,c)∧D.length=t∧Pf p t a b (fun k=>D.getD k []) c:=by
  have hlt:=hp.lt
  obtain ⟨m,em,m1,m2,m3⟩:=JE hp ha hb (by omega) (by omega)
  have hml:m.length≤2*t+1:=by omega
  have hc0:(iK (List.replicate (2*t+1) 0) m).length=2*t+1:=(tW (n:=2*t+1) (i:=0) (f:=m) hml).1
  have hcg:∀ i,(iK (List.replicate (2*t+1) 0) m).getD i 0=m.getD i 0:=fun i=>(tW (n:=2*t+1) (i:=i) (f:=m) hml).2
  have hcp:Lt p (iK (List.replicate (2*t+1) 0) m):=fun i _=>by rw [hcg];exact m1.get hp.pos i
  have hce:∀ x,cc (P p (iK (List.replicate (2*t+1) 0) m)) x=cc (P p a) x*cc (P p b) x:=fun x=>by rw [uV hcg,m3]
  have e1:(2:Int)*((t:Nat):Int)=((2*t:Nat):Int):=by omega
  have e2:((2*t:Nat):Int)+1=((2*t+1:Nat):Int):=by omega
  have e3:((t:Nat):Int)+1=((t+1:Nat):Int):=by omega
  have e4:(((2*t+1:Nat):Int)).toNat=2*t+1:=rfl
  have e5:(((t:Nat):Int)).toNat=t:=rfl
  unfold fN mF
  rw [gE (by omega) (by omega),bS,e1,bk (by omega) (by omega),bS,e2,ck (by omega) (by omega) (by omega) (by omega),bS,e4,em,bS,ck (by omega) (by omega) (by omega) (by omega),bS,e5,bS]
  unfold M8
  rw [if_pos (by omega),e5]
  generalize hL:iK (List.replicate (2*t+1) 0) m=L0 at *
  rcases ht with rfl | rfl
  · obtain ⟨L1,f,s1,s2,s3,s4,s5,s6,s7,s8⟩:=wg hp (t:=1) (q:=0) (by omega) (by omega) hr hrl hc0 hcp (d:=[[]]) rfl
    have hloop:cV (fun j (st:(List Nat) × (List (List Nat)))=>dJ p ((1:Nat):Int) r (((1:Nat):Int) - (j:Int)) st.1 st.2) 1 0 (L0,List.replicate 1 [])=some (L1,[f]):=by
      refine Pw ?_
      have x1:((1:Nat):Int) - ((0:Nat):Int)=((0+1:Nat):Int):=by omega
      simp only
      rw [x1];exact s1
    rw [hloop,bS]
    simp only
    rw [bk (by omega) (by omega),bS,e3,eu (by omega) (by omega) (by omega),bS]
    have hcut:((L1.drop (0:Int).toNat).take (((1+1:Nat):Int).toNat - (0:Int).toNat))=L1.take 2:=rfl
    rw [hcut]
    have hg:∀ i,(L1.take 2).getD i 0=if i < 2 then L1.getD i 0 else 0:=fun i=>by
      rw [List.getD_eq_getElem?_getD,List.getElem?_take]
      split
      · rw [← List.getD_eq_getElem?_getD]
      · rfl
    refine ⟨_,_,rfl,rfl,fun k hk=>?_,by rw [List.length_take,s2];rfl,fun i hi=>?_,fun x=>?_⟩
    · have:k=0:=by omega
      subst this;exact ⟨s4,s5⟩
    · rw [hg];split
      · exact s3.get hp.pos i
      · exact hp.pos
    · rw [← hce x,o8 (n:=3) (by omega),o8 (n:=2) (f:=L1.take 2) (by rw [List.length_take];omega)]
      simp only [sm]
      rw [show ([f].getD 0 [])=f from rfl,o8 (n:=2) (f:=f) (by omega)]
      simp only [sm,hg]
      have a0:=s8 0
      have a1:=s8 1
      have a2:=s8 2
      rw [if_neg (by omega)] at a0
      rw [if_pos (by omega)] at a1 a2
      rw [if_pos (by omega),if_pos (by omega),a0,a1]
      have b1:f.getD 1 0=L0.getD 2 0:=s7
      rw [b1]
      show _=_+x ^ 1*(_+o p (f.getD 0 0)*x ^ 0+o p (L0.getD 2 0)*x ^ 1)+(_+_+(o p (L0.getD 1 0) - o p (f.getD 0 0))*x ^ 1)
      grind
  · obtain ⟨L1,f,s1,s2,s3,s4,s5,s6,s7,s8⟩:=wg hp (t:=2) (q:=1) (by omega) (by omega) hr hrl hc0 hcp (d:=[[],[]]) rfl
    obtain ⟨L2,g,t1,t2,t3,t4,t5,t6,t7,t8⟩:=wg hp (t:=2) (q:=0) (by omega) (by omega) hr hrl s2 s3 (d:=[[],f]) rfl
    have hloop:cV (fun j (st:(List Nat) × (List (List Nat)))=>dJ p ((2:Nat):Int) r (((2:Nat):Int) - (j:Int)) st.1 st.2) 2 0 (L0,List.replicate 2 [])=some (L2,[g,f]):=by
      have x1:((2:Nat):Int) - ((0:Nat):Int)=((1+1:Nat):Int):=by omega
      have x2:((2:Nat):Int) - ((1:Nat):Int)=((0+1:Nat):Int):=by omega
      refine NL (b:=(L1,[[],f])) ?_ ?_
      · simp only
        rw [x1];exact s1
      · simp only
        rw [x2];exact t1
    rw [hloop,bS]
    simp only
    rw [bk (by omega) (by omega),bS,e3,eu (by omega) (by omega) (by omega),bS]
    have hcut:((L2.drop (0:Int).toNat).take (((2+1:Nat):Int).toNat - (0:Int).toNat))=L2.take 3:=rfl
    rw [hcut]
    have hg:∀ i,(L2.take 3).getD i 0=if i < 3 then L2.getD i 0 else 0:=fun i=>by
      rw [List.getD_eq_getElem?_getD,List.getElem?_take]
      split
      · rw [← List.getD_eq_getElem?_getD]
      · rfl
    refine ⟨_,_,rfl,rfl,fun k hk=>?_,by rw [List.length_take,t2];rfl,fun i hi=>?_,fun x=>?_⟩
    · have:k=0 ∨ k=1:=by omega
      rcases this with rfl | rfl
      · exact ⟨t4,t5⟩
      · exact ⟨s4,s5⟩
    · rw [hg];split
      · exact t3.get hp.pos i
      · exact hp.pos
    · rw [← hce x,o8 (n:=5) (by omega),o8 (n:=3) (f:=L2.take 3) (by rw [List.length_take];omega)]
      simp only [sm]
      rw [show ([g,f].getD 0 [])=g from rfl,show ([g,f].getD 1 [])=f from rfl,o8 (n:=3) (f:=f) (by omega),o8 (n:=3) (f:=g) (by omega)]
      simp only [sm,hg]
      have a0:=s8 0
      have a1:=s8 1
      have a2:=s8 2
      have a3:=s8 3
      have b0:=t8 0
      have b1:=t8 1
      have b2:=t8 2
      rw [if_neg (by omega)] at a0 a1 b0
      rw [if_pos (by omega)] at a2 a3 b1 b2
      rw [if_pos (by omega),if_pos (by omega),if_pos (by omega),b0,b1,b2,a0,a1,a2]
      have c1:o p (g.getD 2 0)=o p (L0.getD 3 0) - o p (f.getD 1 0):=by
        have h7:g.getD 2 0=L1.getD 3 0:=t7
        rw [h7,a3]
      have c2:f.getD 2 0=L0.getD 4 0:=s7
      rw [c1,c2]
      show _=_+x ^ 1*_+x ^ 2*(_+o p (f.getD 0 0)*x ^ 0+_+_)+(_+_+(o p (L0.getD 1 0) - o p (g.getD 0 0))*x ^ 1+(o p (L0.getD 2 0) - o p (f.getD 0 0) - o p (g.getD 1 0))*x ^ 2)
      grind
end
end Pu

/- Plain laws of chapter 22: drawing. -/
set_option linter.unusedVariables false
namespace Pu
open Gw Gl Sp
def hH (t:Nat):Nat:=2*(t+1)+t*t
def hA (l:List Nat) (a t k:Nat):List Nat:=(l.drop (a+k*hH t)).take (t+1)
def hB (l:List Nat) (a t k:Nat):List Nat:=(l.drop (a+k*hH t+(t+1))).take (t+1)
def NP (x:Option (List (List Nat) × List Nat)):List Nat:=match x with
  | some y=>y.2
  | none=>[]
/-- the third number's polynomial -/
def hC (p:Nat) (l:List Nat) (a t k:Nat):List Nat:=NP (fN p ((t:Nat):Int) (hA l a t k) (hB l a t k) ((l.drop (a+k*hH t+(2*t+2))).take (t*t)))
theorem Nh {p:Nat} {l:List Nat} {a t k:Nat} {D:List (List Nat)} {c:List Nat} (e:fN p ((t:Nat):Int) (hA l a t k) (hB l a t k) ((l.drop (a+k*hH t+(2*t+2))).take (t*t))=some (D,c)):hC p l a t k=c :=
  congrArg NP e
/-- what a dealer draws for m triples -/
structure Dw (p:Nat) [NeZero p] (t m:Nat) (l:List Nat) (a:Nat) (R:List (List Nat)):Prop where
  len:R.length=m*(t+3)
  ww:∀ q,q < m*(t+3)→(R.getD q []).length=t+1∧Lt p (R.getD q [])
  pf:∀ k,k < m→R.getD (k*(t+3)) []=hA l a t k∧R.getD (k*(t+3)+1) []=hB l a t k∧Pf p t (hA l a t k) (hB l a t k) (fun j=>R.getD (k*(t+3)+2+j) []) (R.getD (k*(t+3)+2+t) [])
  cv:∀ k,k < m→R.getD (k*(t+3)+2+t) []=hC p l a t k
theorem pR {α:Type} {a b:List α} {i j:Nat} {d:α} (h:i=a.length+j):(a++b).getD i d=b.getD j d:=by
  subst h
  rw [List.getD_eq_getElem?_getD,List.getElem?_append_right (by omega),Nat.add_sub_cancel_left,← List.getD_eq_getElem?_getD]
theorem Hy {x y z:List (List Nat)} (h:x.length+y.length+z.length≤1000):ss [x,y,z]=some (x++y++z):=by
  unfold ss
  have e:cV (fun k1 (st:(List (List Nat)))=>eZ [x,y,z] k1 st) 3 0 []=some (x++y++z):=by
    have h0:eZ [x,y,z] 0 []=some x:=by
      unfold eZ
      show (cP 24 [] x >>= _)=_
      rw [aM (by simp only [List.length_nil];omega) (by simp only [List.length_nil];omega),bS,List.nil_append]
    have h1:eZ [x,y,z] 1 x=some (x++y):=by
      unfold eZ
      show (cP 24 x y >>= _)=_
      rw [aM (by omega) (by omega),bS]
    have h2:eZ [x,y,z] 2 (x++y)=some (x++y++z):=by
      unfold eZ
      show (cP 24 (x++y) z >>= _)=_
      rw [aM (by rw [List.length_append];omega) (by rw [List.length_append];omega),bS]
    unfold cV
    rw [h0]
    show cV (fun k1 (st:(List (List Nat)))=>eZ [x,y,z] k1 st) 2 1 x=_
    unfold cV
    rw [h1]
    show cV (fun k1 (st:(List (List Nat)))=>eZ [x,y,z] k1 st) 1 2 (x++y)=_
    unfold cV
    rw [h2];rfl
  show (cV (fun k1 (st:(List (List Nat)))=>eZ [x,y,z] k1 st) 3 0 [] >>= _)=_
  rw [e,bS]
theorem Lt.take {p:Nat} (hp:0 < p) {l:List Nat} (hl:Lt p l) (a b:Nat):Lt p ((l.drop a).take b):=fun i hi=>by
  rw [List.getD_eq_getElem?_getD,List.getElem?_take]
  split
  · rw [List.getElem?_drop,← List.getD_eq_getElem?_getD];exact hl.get hp _
  · exact hp
theorem DL {net:ai} {S:aD} {n t m d:Nat} {dd:aS} [NeZero S.P] (hp:fX S.P) (hT:S.T=(t:Int)) (ht:t=1 ∨ t=2) (hm:m≤2) (hn:n≤7) (hd:d < n) (hl:net.ak.length=n) {l:List Nat} {a:Nat} (ha:net.ak.getD d ⟨[],0⟩=⟨l,((a:Nat):Int)⟩) (h:a+m*hH t≤l.length) (hl2:l.length≤1000) (hlp:Lt S.P l) :
    ∃ R T,iM ⟨net,S,dd⟩ ((d+1:Nat):Int) ((m:Nat):Int)=some (R,T)∧T.length=n∧T.getD d ⟨[],0⟩=⟨l,((a+m*hH t:Nat):Int)⟩∧(∀ j,j≠d→T.getD j ⟨[],0⟩=net.ak.getD j ⟨[],0⟩)∧Dw S.P t m l a R:=by
  have hlt:=hp.lt
  have e0:max 0 ((m:Nat):Int).toNat=m:=by omega
  have e1:((d+1:Nat):Int) - 1=((d:Nat):Int):=by omega
  have hHt:hH t≤10∧2*(t+1)≤hH t∧hH t=2*(t+1)+t*t∧t*t≤4∧t*t+2*(t+1)=hH t:=by rcases ht with rfl | rfl <;> (unfold hH;omega)
  obtain ⟨hH1,hH2,hH3,hH4,hH5⟩:=hHt
  have ht2:t≤2:=by omega
  unfold iM
  simp only
  rw [e0,bT (by omega),bS,Nat.sub_zero]
  obtain ⟨r,er,r1,r2,r3,r4⟩:=bo (body:=fun k1 (st:(List aH) × (List (List Nat)))=>fi ⟨net,S,dd⟩ ((d+1:Nat):Int) k1 st.1 st.2)
    (fun k st=>st.1.length=n∧st.1.getD d ⟨[],0⟩=⟨l,((a+k*hH t:Nat):Int)⟩∧(∀ j,j≠d→st.1.getD j ⟨[],0⟩=net.ak.getD j ⟨[],0⟩)∧Dw S.P t k l a st.2) (rem:=m) (k:=0) (s:=(net.ak,[]))
    ⟨hl,by rw [Nat.zero_mul];exact ha,fun _ _=>rfl,by rw [Nat.zero_mul];rfl,fun q hq=>by omega,fun k hk=>by omega,fun k hk=>by omega⟩ (fun k st _ hk ⟨r1,r2,r3,r4⟩=>by
      obtain ⟨T,R⟩:=st
      simp only at r1 r2 r3 r4
      have hkm:k < m:=by omega
      have h1:k*hH t+hH t≤m*hH t:=by rw [← Nat.succ_mul];exact Nat.mul_le_mul_right (hH t) hkm
      have hRl:=r4.len
      have hk3:k*(t+3)≤10:=Nat.le_trans (Nat.mul_le_mul (show k≤2 by omega) (show t+3≤5 by omega)) (by omega)
      have c1:((t:Nat):Int)+1=((t+1:Nat):Int):=by omega
      have c2:(2:Int)*((t+1:Nat):Int)=((2*(t+1):Nat):Int):=by omega
      have c3:((2*(t+1):Nat):Int)+((t*t:Nat):Int)=((hH t:Nat):Int):=by omega
      have c4:(2:Int)*((t:Nat):Int)=((2*t:Nat):Int):=by omega
      have c5:((2*t:Nat):Int)+2=((2*t+2:Nat):Int):=by omega
      obtain ⟨x,hx⟩:∃ x,a+k*hH t=x:=⟨_,rfl⟩
      have hxl:x+hH t≤l.length:=by omega
      have hhl:((l.drop x).take (hH t)).length=hH t:=by rw [List.length_take,List.length_drop];omega
      have k1:(((l.drop x).take (hH t)).drop (0:Int).toNat).take (((t+1:Nat):Int).toNat - (0:Int).toNat)=hA l a t k:=by
        show (((l.drop x).take (hH t)).drop 0).take (t+1)=_
        unfold hA
        rw [hx,List.drop_zero,List.take_take]
        congr 1;omega
      have k2:(((l.drop x).take (hH t)).drop ((t+1:Nat):Int).toNat).take (((2*t+2:Nat):Int).toNat - ((t+1:Nat):Int).toNat)=hB l a t k:=by
        show (((l.drop x).take (hH t)).drop (t+1)).take (2*t+2 - (t+1))=_
        unfold hB
        rw [hx,List.drop_take,List.drop_drop,List.take_take]
        congr 1;omega
      have k3:(((l.drop x).take (hH t)).drop ((2*t+2:Nat):Int).toNat).take ((((hH t:Nat):Int)).toNat - ((2*t+2:Nat):Int).toNat)=(l.drop (x+(2*t+2))).take (t*t):=by
        show (((l.drop x).take (hH t)).drop (2*t+2)).take (hH t - (2*t+2))=_
        rw [List.drop_take,List.drop_drop,List.take_take]
        congr 1;omega
      have hAl:(hA l a t k).length=t+1:=by unfold hA;rw [hx,List.length_take,List.length_drop];omega
      have hBl:(hB l a t k).length=t+1:=by unfold hB;rw [hx,List.length_take,List.length_drop];omega
      obtain ⟨D,c,eP,dl,F⟩:=Gz (a:=hA l a t k) (b:=hB l a t k) hp ht (hlp.take hp.pos _ _) (hlp.take hp.pos _ _) (hlp.take hp.pos (x+(2*t+2)) (t*t)) hAl hBl (by rw [List.length_take,List.length_drop];omega)
      unfold fi fL
      simp only
      rw [cD (by omega) (by omega),bS,e1,aX ⟨[],0⟩ (by omega) (by omega),bS,bS,Int.toNat_natCast,hT,bk (by omega) (by omega),bS,c1,gE (by omega) (by omega),bS,c2,mulN (by omega),bS,bk (by omega) (by omega),bS,c3,ix ⟨[],0⟩ (by omega),bS,r2,hx,Dk hxl hl2,bS]
      simp only
      rw [bS,eu (by omega) (by omega) (by omega),bS,k1,gE (by omega) (by omega),bS,c4,bk (by omega) (by omega),bS,c5,eu (by omega) (by omega) (by omega),bS,k2,hhl,eu (by omega) (by omega) (by omega),bS,k3,eP,bS]
      simp only
      rw [Hy (by simp only [List.length_cons,List.length_nil];omega),bS]
      have hXl:(([hA l a t k,hB l a t k]++D)++[c]).length=t+3:=by simp only [List.length_append,List.length_cons,List.length_nil];omega
      rw [aM (by rw [hXl];omega) (by rw [hXl];omega),bS]
      have g0:∀ q,q < k*(t+3)→(R++(([hA l a t k,hB l a t k]++D)++[c])).getD q []=R.getD q []:=fun q hq=>cy (by omega)
      have gA:(R++(([hA l a t k,hB l a t k]++D)++[c])).getD (k*(t+3)) []=hA l a t k:=pR (j:=0) (by omega)
      have gB:(R++(([hA l a t k,hB l a t k]++D)++[c])).getD (k*(t+3)+1) []=hB l a t k:=pR (j:=1) (by omega)
      have gD:∀ j,j < t→(R++(([hA l a t k,hB l a t k]++D)++[c])).getD (k*(t+3)+2+j) []=D.getD j []:=fun j hj=>by
        rw [pR (j:=2+j) (by omega),cy (by simp only [List.length_append,List.length_cons,List.length_nil];omega),pR (j:=j) (show 2+j=[hA l a t k,hB l a t k].length+j from rfl)]
      have gC:(R++(([hA l a t k,hB l a t k]++D)++[c])).getD (k*(t+3)+2+t) []=c:=by
        rw [pR (j:=2+t) (by omega),c9 (by simp only [List.length_append,List.length_cons,List.length_nil];omega)]
      refine ⟨_,rfl,by simp only [List.length_set];exact r1,?_,fun j hj=>?_,?_⟩
      · simp only
        rw [aL (by omega),if_pos rfl,Nat.succ_mul,← Nat.add_assoc,hx]
      · simp only
        rw [aL (by omega),if_neg (fun e=>hj e.symm)];exact r3 j hj
      · simp only
        refine ⟨by rw [List.length_append,hXl,hRl,Nat.succ_mul],fun q hq=>?_,fun k' hk'=>?_,fun k' hk'=>?_⟩
        · rw [Nat.succ_mul] at hq
          by_cases g:q < k*(t+3)
          · rw [g0 q g];exact r4.ww q g
          · obtain ⟨j,rfl⟩:∃ j,q=k*(t+3)+j:=⟨q - k*(t+3),by omega⟩
            by_cases j0:j=0
            · subst j0;rw [Nat.add_zero,gA];exact ⟨hAl,hlp.take hp.pos _ _⟩
            · by_cases j1:j=1
              · subst j1;rw [gB];exact ⟨hBl,hlp.take hp.pos _ _⟩
              · obtain ⟨i,rfl⟩:∃ i,j=2+i:=⟨j - 2,by omega⟩
                rw [← Nat.add_assoc]
                by_cases g2:i < t
                · rw [gD i g2];exact F.dw i g2
                · have:i=t:=by omega
                  subst this;rw [gC];exact ⟨F.cl,F.cw⟩
        · by_cases g:k' < k
          · have h2:k'*(t+3)+(t+3)≤k*(t+3):=by rw [← Nat.succ_mul];exact Nat.mul_le_mul_right (t+3) g
            obtain ⟨f1,f2,f3⟩:=r4.pf k' g
            refine ⟨by rw [g0 _ (by omega)];exact f1,by rw [g0 _ (by omega)];exact f2,fun j hj=>?_,?_,?_,fun x=>?_⟩
            · rw [g0 _ (by omega)];exact f3.dw j hj
            · rw [g0 _ (by omega)];exact f3.cl
            · rw [g0 _ (by omega)];exact f3.cw
            · rw [f3.eq x,g0 _ (by omega)]
              exact congrArg (·+cc (P S.P (R.getD (k'*(t+3)+2+t) [])) x) (bY fun j hj=>by rw [g0 _ (by omega)])
          · have:k'=k:=by omega
            subst this
            refine ⟨gA,gB,fun j hj=>?_,?_,?_,fun x=>?_⟩
            · rw [gD j hj];exact F.dw j hj
            · rw [gC];exact F.cl
            · rw [gC];exact F.cw
            · rw [F.eq x,gC]
              exact congrArg (·+cc (P S.P c) x) (bY fun j hj=>by rw [gD j hj])
        · by_cases g:k' < k
          · have h2:k'*(t+3)+(t+3)≤k*(t+3):=by rw [← Nat.succ_mul];exact Nat.mul_le_mul_right (t+3) g
            rw [g0 _ (by omega)];exact r4.cv k' g
          · have:k'=k:=by omega
            subst this
            rw [gC];exact (Nh (by rw [hx];exact eP)).symm)
  obtain ⟨T,R⟩:=r
  simp only at r1 r2 r3 r4
  rw [er,bS]
  rw [Nat.zero_add] at r2 r4
  exact ⟨R,T,rfl,r1,r2,r3,r4⟩
theorem B5 {net:ai} {r1:ae} {n t m:Nat} [NeZero r1.S.P] (hp:fX r1.S.P) (hT:r1.S.T=(t:Int)) (ht:t=1 ∨ t=2) (hm:m≤2) (hn:n≤7) {tp:Nat→List Nat} {ps:Nat→Nat} (hts:BR n net.ak tp ps) (h:∀ d,d < n→ps d+m*hH t≤(tp d).length) (hlt:∀ d,d < n→Lt r1.S.P (tp d)) :
    ∃ T q,cV (fun k1 (st:(List aH) × (List (List (List (List Nat)))) × (List Bool) × (List (List (List Nat))))=>fQ net ((m:Nat):Int) r1 k1 st.1 st.2.1 st.2.2.1 st.2.2.2) n 1 (net.ak,[],[],[])=some (T,[],[],q)∧q.length=n∧(∀ d,d < n→Dw r1.S.P t m (tp d) (ps d) (q.getD d []))∧BR n T tp (fun i=>ps i+m*hH t):=by
  obtain ⟨r,er,q1,q2,q3,q4,q5⟩:=bo (body:=fun k1 (st:(List aH) × (List (List (List (List Nat)))) × (List Bool) × (List (List (List Nat))))=>fQ net ((m:Nat):Int) r1 k1 st.1 st.2.1 st.2.2.1 st.2.2.2)
    (fun k st=>st.1.length=n∧(∀ j,j < n→st.1.getD j ⟨[],0⟩=if j+1 < k then ⟨tp j,((ps j+m*hH t:Nat):Int)⟩ else ⟨tp j,((ps j:Nat):Int)⟩)∧(st.2.1=[]∧st.2.2.1=[])∧st.2.2.2.length=k - 1∧∀ d,d < k - 1→Dw r1.S.P t m (tp d) (ps d) (st.2.2.2.getD d [])) (rem:=n) (k:=1) (s:=(net.ak,[],[],[]))
    ⟨hts.len,fun j hj=>by rw [if_neg (by omega)];exact hts.at_ j hj,⟨rfl,rfl⟩,rfl,fun d hd=>by omega⟩ (fun k st h1 hk ⟨q1,q2,q3,q4,q5⟩=>by
      obtain ⟨T,l3,l4,l5⟩:=st
      simp only at q1 q2 q3 q4 q5
      obtain ⟨d,rfl⟩:∃ d,k=d+1:=⟨k - 1,by omega⟩
      have hd:d < n:=by omega
      rw [Nat.add_sub_cancel] at q4 q5
      have hT0:=q2 d hd
      rw [if_neg (by omega)] at hT0
      obtain ⟨R,T2,e,t1,t2,t3,t4⟩:=DL (net:=⟨net.zw,net.ah,net.au,T⟩) (S:=r1.S) (dd:=⟨l3,l4⟩) hp hT ht hm hn hd q1 hT0 (h d hd) (hts.le d hd).2 (hlt d hd)
      unfold fQ
      rw [e,bS,aM (by simp only [List.length_cons,List.length_nil];omega) (by simp only [List.length_cons,List.length_nil];omega),bS]
      refine ⟨_,rfl,t1,fun j hj=>?_,q3,?_,fun j hj=>?_⟩
      · simp only
        by_cases g:j=d
        · subst g;rw [if_pos (by omega)];exact t2
        · rw [t3 j g]
          have:=q2 j hj
          simp only
          rw [this]
          by_cases g2:j < d
          · rw [if_pos (by omega),if_pos (by omega)]
          · rw [if_neg (by omega),if_neg (by omega)]
      · simp only
        rw [List.length_append,q4];rfl
      · simp only
        by_cases g:j < d
        · rw [cy (by omega)];exact q5 j g
        · have:j=d:=by omega
          subst this
          rw [c9 (by omega)];exact t4)
  obtain ⟨T,l3,l4,l5⟩:=r
  simp only at q1 q2 q3 q4 q5
  obtain ⟨rfl,rfl⟩:=q3
  rw [Nat.add_sub_cancel_left] at q4 q5
  rw [er]
  refine ⟨T,l5,rfl,q4,q5,q1,fun j hj=>?_,fun j hj=>⟨h j hj,(hts.le j hj).2⟩⟩
  rw [q2 j hj,if_pos (by omega)]
end Pu

/- Plain laws of chapter 22: the check of a proof at a point, and the complaints. -/
set_option linter.unusedVariables false
namespace Pu
open Gw Gl Sp
/-- the check of a proof at party i's point -/
def hv (p:Nat) [NeZero p] (t i:Nat) (v:List Nat):Bool:=decide (o p (v.getD 0 0)*o p (v.getD 1 0) - sm t (fun j=>o p (i+1) ^ (j+1)*o p (v.getD (2+j) 0))=o p (v.getD (2+t) 0))
section
variable {p:Nat} [NeZero p] {n t c:Nat} {res:aS}
theorem Eu (hp:fX p) {at_ a b x:Nat} {d:List Nat} (hat:at_ < p) (ha:a < p) (hb:b < p) (hx:x < p) (hd:Lt p d) (hl:d.length=t) (ht:t≤100) :
    je p at_ a b d x=some (decide (o p a*o p b - sm t (fun j=>o p at_ ^ (j+1)*o p (d.getD j 0))=o p x)):=by
  have hlt:=hp.lt
  unfold je
  rw [jX hp ha hb,bS,yP hp (by omega),bS,Nat.mod_eq_of_lt hat,hl,Nat.sub_zero]
  obtain ⟨r,er,r1,r2,r3,r4⟩:=bo (body:=fun k1 (st:Nat × Nat)=>fq p at_ d k1 st.1 st.2) (fun k st=>st.1 < p∧st.2 < p∧o p st.1=o p a*o p b - sm k (fun j=>o p at_ ^ (j+1)*o p (d.getD j 0))∧o p st.2=o p at_ ^ (k+1)) (rem:=t) (k:=0) (s:=(a*b % p,at_))
    ⟨Nat.mod_lt _ hp.pos,hat,by simp only [sm];rw [mf,pW];grind,by simp only;grind⟩ (fun k st _ hk ⟨r1,r2,r3,r4⟩=>by
      unfold fq
      rw [ix 0 (by omega),bS,jX hp r2 (hd.get hp.pos _),bS,Ah hp r1 (Nat.mod_lt _ hp.pos),bS,jX hp r2 hat,bS]
      refine ⟨_,rfl,Nat.mod_lt _ hp.pos,Nat.mod_lt _ hp.pos,?_,?_⟩
      · simp only
        rw [zY (Nat.mod_lt _ hp.pos),mf,pW,r3,r4,sm];grind
      · simp only
        rw [mf,pW,r4];grind)
  obtain ⟨u,v⟩:=r
  simp only at r1 r3
  rw [Nat.zero_add] at r3
  rw [er,bS]
  simp only
  rw [← r3]
  by_cases g:u=x
  · subst g;rw [eT rfl,dT rfl]
  · rw [eF (by omega),dF (fun e=>g (tD r1 hx e))]
theorem xH (hp:fX p) {x:aC} (hx:x.zs.P=p) {i:Nat} (hi:i+1 < p) {v:List Nat} (hv1:v.length=t+3) (hvp:Lt p v) (ht:t≤2):eU x ((i+1:Nat):Int) v=some (hv p t i v):=by
  have hlt:=hp.lt
  have hU:uu ((i+1:Nat):Int)=i+1:=by unfold uu;omega
  have e1:((t+3:Nat):Int) - 1=((t+2:Nat):Int):=by omega
  have hc:((v.drop (2:Int).toNat).take (((t+2:Nat):Int).toNat - (2:Int).toNat))=(v.drop 2).take t:=rfl
  have hg:∀ j,j < t→((v.drop 2).take t).getD j 0=v.getD (2+j) 0:=fun j hj=>by
    rw [List.getD_eq_getElem?_getD,List.getElem?_take,if_pos hj,List.getElem?_drop,← List.getD_eq_getElem?_getD]
  unfold eU
  rw [hv1,cD (by omega) (by omega),bS,e1,bS,hU,ix 0 (by omega),bS,ix 0 (by omega),bS,eu (by omega) (by omega) (by omega),bS,hc,aX 0 (by omega) (by omega),bS,Int.toNat_natCast,hx,Eu (t:=t) hp hi (hvp.get hp.pos _) (hvp.get hp.pos _) (hvp.get hp.pos _) (hvp.take hp.pos _ _) (by rw [List.length_take,List.length_drop];omega) (by omega),bS]
  unfold hv
  rw [Nat.add_comm 2 t,bY fun j hj=>by rw [hg j hj]]
/-- the words of party i for a triple -/
def Aj (t:Nat) (f:Nat→List Nat):List Nat:=(List.range (t+3)).map fun j=>(f j).getD 0 0
theorem Ak {f:Nat→List Nat}:(Aj t f).length=t+3:=ko
theorem vx {f:Nat→List Nat} {j:Nat} (hj:j < t+3):(Aj t f).getD j 0=(f j).getD 0 0:=jf hj
end
section
variable {p n t c:Nat} {res:aS}
theorem Ha (hp:fX p) {f:Nat→List Nat} (h:∀ j,j < t+3→Lt p (f j)):Lt p (Aj t f):=fun i hi=>by
  rw [Ak] at hi
  rw [vx hi];exact (h i hi).get hp.pos 0
theorem rC {net:ai} {S:aD} {m:Nat} (F:Fm p n t (m*(t+3)) res) (hT:S.T=(t:Int)) (hn:n≤100) (hm:m*(t+3)≤10) {d k j:Nat} (hd:d < n) (hk:k < m) (hj:j < t+3):c8 ⟨net,S,res⟩ ((d+1:Nat):Int) ((k:Nat):Int) ((j:Nat):Int)=some (shr res n d (k*(t+3)+j)):=by
  have h1:k*(t+3)+(t+3)≤m*(t+3):=by rw [← Nat.succ_mul];exact Nat.mul_le_mul_right (t+3) hk
  have e1:((t:Nat):Int)+3=((t+3:Nat):Int):=by omega
  have e2:((k*(t+3):Nat):Int)+((j:Nat):Int)=((k*(t+3)+j:Nat):Int):=by omega
  unfold c8 cJ
  simp only
  rw [hT,bk (by omega) (by omega),bS,bS,e1,mulN (by omega),bS,bk (by omega) (by omega),bS,e2,JS F hn hm hd (by omega),bS]
end
section
variable {p:Nat} [NeZero p] {n t c:Nat} {res:aS}
theorem zV {i:Nat} {f:Nat→List Nat}:hv p t i (Aj t f)=decide (o p ((f 0).getD 0 0)*o p ((f 1).getD 0 0) - sm t (fun j=>o p (i+1) ^ (j+1)*o p ((f (2+j)).getD 0 0))=o p ((f (2+t)).getD 0 0)):=by
  unfold hv
  rw [vx (by omega),vx (by omega),vx (by omega),bY fun j hj=>by rw [vx (by omega)]]
theorem Gm (hp:fX p) {net:ai} {S:aD} {m:Nat} (F:Fm p n t (m*(t+3)) res) (hT:S.T=(t:Int)) (hP:S.P=p) (hn:n≤7) (ht:t≤2) (hm:m*(t+3)≤10) {i d k:Nat} (hi:i < n) (hd:d < n) (hk:k < m):jh ⟨net,S,res⟩ ((i+1:Nat):Int) ((d+1:Nat):Int) ((k:Nat):Int)=some (hv p t i (Aj t fun j=>xW res i d (k*(t+3)+j))):=by
  have hlt:=hp.lt
  have h1:k*(t+3)+(t+3)≤m*(t+3):=by rw [← Nat.succ_mul];exact Nat.mul_le_mul_right (t+3) hk
  have e1:((t:Nat):Int)+3=((t+3:Nat):Int):=by omega
  have e2:max 0 (((t+3:Nat):Int)).toNat=t+3:=by omega
  have e3:((i+1:Nat):Int) - 1=((i:Nat):Int):=by omega
  have e4:cJ (⟨net,S,res⟩:aC)=some ((t+3:Nat):Int):=by
    unfold cJ
    simp only
    rw [hT,bk (by omega) (by omega),bS,e1]
  unfold jh
  rw [e4,bS,e2,bT (by omega),bS,Nat.sub_zero,gk (fun j=>(xW res i d (k*(t+3)+j)).getD 0 0) (fun j l hj hl=>by
    have hw:=F.ww i hi d hd (k*(t+3)+j) (by omega)
    unfold mK
    rw [rC F hT (by omega) hm hd hk hj,bS,cD (by omega) (by omega),bS,e3,aX [] (by omega) (by rw [Ad];omega),bS,Int.toNat_natCast,lf hi,ix 0 (by omega),bS,aM (by simp only [List.length_cons,List.length_nil];omega) (by simp only [List.length_cons,List.length_nil];omega),bS]),bS]
  show (eU _ _ (Aj t fun j=>xW res i d (k*(t+3)+j)) >>= _)=_
  rw [xH (t:=t) hp hP (by omega) Ak (Ha hp fun j hj=>(F.ww i hi d hd (k*(t+3)+j) (by omega)).2) ht,bS]
/-- what party i says of the a-th triple -/
def vt (p t n m:Nat) [NeZero p] (res:aS) (i a:Nat):Nat:=if hv p t i (Aj t fun j=>xW res i (a / m) (a % m*(t+3)+j)) then 0 else 1
def uQ (p t n m:Nat) [NeZero p] (res:aS):List (List Nat):=(List.range n).map fun i=>(List.range (n*m)).map fun a=>vt p t n m res i a
def o9 (c:Nat × Nat × Nat):aV:=⟨((c.1+1:Nat):Int),((c.2.1+1:Nat):Int),((c.2.2:Nat):Int)⟩
theorem Ek (hp:fX p) {m:Nat}:Bl p n (n*m) (uQ p t n m res):=⟨ko,fun i hi=>by
  have hlt:=hp.lt
  unfold uQ
  rw [jf hi,ko]
  refine ⟨fun a ha=>?_,Nat.le_refl _⟩
  rw [ko] at ha
  rw [jf ha]
  unfold vt
  split <;> omega⟩
theorem El {net:ai} {m:Nat} [NeZero net.zw.S.P] (s:Sc net.zw n t) (F:Fm net.zw.S.P n t (m*(t+3)) res) (hn:n≤7) (ht:t≤2) (hm:0 < m) (hm2:m≤2) :
    cV (fun k1 (st:(List (List Nat)))=>gm ⟨net,net.zw.S,res⟩ ((m:Nat):Int) k1 st) n 1 ([]:List (List Nat))=some (uQ net.zw.S.P t n m res):=by
  have hp:=s.sup
  have hlt:=hp.lt
  have hnm:n*m≤14:=Nat.le_trans (Nat.mul_le_mul hn hm2) (by omega)
  have hm10:m*(t+3)≤10:=Nat.le_trans (Nat.mul_le_mul hm2 (show t+3≤5 by omega)) (by omega)
  have e0:max 1 ((n:Int)+1).toNat - 1=n:=by omega
  have e1:max 0 ((m:Nat):Int).toNat=m:=by omega
  unfold uQ
  refine BB (fun i=>(List.range (n*m)).map fun a=>vt net.zw.S.P t n m res i a) fun i l hi hll=>?_
  unfold gm
  simp only
  rw [s.N,e0]
  obtain ⟨r,er,hr⟩:=bo (body:=fun k2 (st:(List Nat))=>gn ⟨net,net.zw.S,res⟩ ((m:Nat):Int) (i+1) k2 st) (fun k r=>r=(List.range ((k - 1)*m)).map fun a=>vt net.zw.S.P t n m res i a) (rem:=n) (k:=1) (s:=[]) (by simp) (fun k r h1 hk hr=>by
    obtain ⟨d,rfl⟩:∃ d,k=d+1:=⟨k - 1,by omega⟩
    have hd:d < n:=by omega
    rw [Nat.add_sub_cancel] at hr
    unfold gn
    rw [e1,bT (by omega),bS,Nat.sub_zero]
    obtain ⟨r2,er2,hr2⟩:=bo (body:=fun k3 (st:(List Nat))=>gp ⟨net,net.zw.S,res⟩ (i+1) (d+1) k3 st) (fun k r=>r=(List.range (d*m+k)).map fun a=>vt net.zw.S.P t n m res i a) (rem:=m) (k:=0) (s:=r) hr (fun k r _ hk hr=>by
      have hkm:k < m:=by omega
      have hdm:d*m+m≤n*m:=by rw [← Nat.succ_mul];exact Nat.mul_le_mul_right m hd
      have q1:(d*m+k) / m=d:=by rw [Nat.mul_comm,Nat.mul_add_div hm,Nat.div_eq_of_lt hkm,Nat.add_zero]
      have q2:(d*m+k) % m=k:=by rw [Nat.mul_comm,Nat.mul_add_mod,Nat.mod_eq_of_lt hkm]
      have hrl:r.length≤14:=by rw [hr,ko];omega
      unfold gp
      rw [Gm hp F s.T rfl hn ht hm10 hi hd hkm,bS]
      have hw:vt net.zw.S.P t n m res i (d*m+k)=if hv net.zw.S.P t i (Aj t fun j=>xW res i d (k*(t+3)+j)) then 0 else 1:=by unfold vt;rw [q1,q2]
      cases hh:hv net.zw.S.P t i (Aj t fun j=>xW res i d (k*(t+3)+j))
      · rw [cF,aM (by simp only [List.length_cons,List.length_nil];omega) (by simp only [List.length_cons,List.length_nil];omega),bS]
        refine ⟨_,rfl,?_⟩
        rw [← Nat.add_assoc,List.range_succ,List.map_append,← hr,List.map_cons,hw,hh];rfl
      · rw [cT,aM (by simp only [List.length_cons,List.length_nil];omega) (by simp only [List.length_cons,List.length_nil];omega),bS]
        refine ⟨_,rfl,?_⟩
        rw [← Nat.add_assoc,List.range_succ,List.map_append,← hr,List.map_cons,hw,hh];rfl)
    rw [er2,bS]
    refine ⟨_,rfl,?_⟩
    rw [hr2,Nat.add_sub_cancel,Nat.zero_add,Nat.succ_mul])
  rw [Nat.add_sub_cancel_left] at hr
  rw [er,bS,aM (by simp only [List.length_cons,List.length_nil];omega) (by simp only [List.length_cons,List.length_nil];omega),bS,hr]
end
section
variable {p n t c:Nat} {res:aS}
/-- the complaints that are heard -/
theorem Cc {net:ai} {S:aD} {m:Nat} {x1:Int} {x2:List (List al)} (F:Fm p n t c res) (hN:S.N=(n:Int)) (hn:n≤7) (hm:0 < m) (hm2:m≤2) {h:List (List Nat)} (hh:h.length=n) :
    cV (fun k4 (st:(List aV))=>eM ⟨net,S,res⟩ ((m:Nat):Int) (h,x1,x2) k4 st) n 0 []=some ((EB n m (fun d=>res.aZ.getD d false) h n).map o9):=by
  have hnm:n*m≤14:=Nat.le_trans (Nat.mul_le_mul hn hm2) (by omega)
  have e1:((n:Nat):Int)*((m:Nat):Int)=((n*m:Nat):Int):=by rw [Int.natCast_mul]
  obtain ⟨r,er,hr⟩:=bo (body:=fun k4 (st:(List aV))=>eM ⟨net,S,res⟩ ((m:Nat):Int) (h,x1,x2) k4 st) (fun k l=>l=(EB n m (fun d=>res.aZ.getD d false) h k).map o9) (rem:=n) (k:=0) (s:=[]) rfl (fun i acc _ hi hacc=>by
    have hin:i < n:=by omega
    have hal:acc.length≤98:=by
      rw [hacc,List.length_map]
      exact Nat.le_trans zE (Nat.le_trans (Nat.mul_le_mul (show i≤7 by omega) hnm) (by omega))
    obtain ⟨r,er,r1,r2⟩:=nk (l:=h.getD i []) (m:=n*m) (by omega)
    unfold eM
    simp only
    rw [ix [] (by omega),bS,hN,gE (by omega) (by omega),bS,e1,er,bS,r1,Nat.sub_zero]
    obtain ⟨l,el,l1,l2⟩:=bo (body:=fun k1 (st:(List aV))=>gr ⟨net,S,res⟩ ((m:Nat):Int) i r k1 st)
      (fun k l=>l=acc++(((List.range k).filter fun a=>decide ((h.getD i []).getD a 0≠0) && !res.aZ.getD (a / m) false).map fun a=>o9 (i,a / m,a % m))∧l.length≤98+k) (rem:=n*m) (k:=0) (s:=acc) ⟨by simp,by omega⟩ (fun k l _ hk ⟨l1,l2⟩=>by
        have hkn:k < n*m:=by omega
        have hd:k / m < n:=Nat.div_lt_of_lt_mul (by rw [Nat.mul_comm];exact hkn)
        obtain ⟨kd,hkd⟩:∃ kd,k / m=kd:=⟨_,rfl⟩
        rw [hkd] at hd
        unfold gr
        rw [ix 0 (by omega),bS,r2 k hkn]
        by_cases g:(h.getD i []).getD k 0=0
        · rw [qF (by omega),cF,bS,cF]
          refine ⟨_,rfl,?_,by omega⟩
          rw [List.range_succ,List.filter_append,List.filter_cons,hkd,dF (by omega),Bool.false_and,if_neg (by decide),List.filter_nil,List.append_nil]
          exact l1
        · rw [qT (by omega),cT,divN hm (by omega),bS,hkd,aX false (by omega) (by simp only;rw [F.dl];omega),bS,Int.toNat_natCast,bS]
          simp only
          cases hq:res.aZ.getD kd false
          · have e2:((kd:Nat):Int)+1=((kd+1:Nat):Int):=by omega
            have e3:((i:Nat):Int)+1=((i+1:Nat):Int):=by omega
            rw [nF,cT,bk (by omega) (by omega),bS,e3,bS,bk (by omega) (by omega),bS,Pt hm,bS,aM (by simp only [List.length_cons,List.length_nil];omega) (by simp only [List.length_cons,List.length_nil];omega),bS]
            refine ⟨_,rfl,?_,by rw [List.length_append];simp only [List.length_cons,List.length_nil];omega⟩
            rw [List.range_succ,List.filter_append,List.filter_cons,hkd,dT g,hq,if_pos (by decide),List.filter_nil,List.map_append,← List.append_assoc,← l1,e2]
            show _=l++[o9 (i,k / m,k % m)]
            rw [hkd]
            rfl
          · rw [nT,cF]
            refine ⟨_,rfl,?_,by omega⟩
            rw [List.range_succ,List.filter_append,List.filter_cons,hkd,hq,nT,Bool.and_false,if_neg (by decide),List.filter_nil,List.append_nil]
            exact l1)
    rw [Nat.zero_add] at l1
    rw [el,bS,l1]
    refine ⟨_,rfl,?_⟩
    unfold EB
    rw [List.range_succ,List.flatMap_append,List.map_append,hacc]
    congr 1
    simp)
  rw [er,hr,Nat.zero_add]
end
section
variable {n t:Nat} {res:aS}
/-- the complaints -/
theorem wQ {net:ai} {m:Nat} [NeZero net.zw.S.P] (s:Sc net.zw n t) (F:Fm net.zw.S.P n t (m*(t+3)) res) (hn:n≤7) (ht:t≤2) (hm:0 < m) (hm2:m≤2) {B:Nat} (hv:VB n B net.au) (hB:B≤500) (hr:0≤net.ah∧net.ah≤1000) :
    ∃ all views,fv ⟨net,net.zw.S,res⟩ ((m:Nat):Int)=some ((EB n m (fun d=>res.aZ.getD d false) all n).map o9,net.ah+1,views) ∧
      (∀ i,i < n→Hn net.zw i→all.getD i []=(uQ net.zw.S.P t n m res).getD i [])∧VB n (B+n) views:=by
  have hnm:n*m≤14:=Nat.le_trans (Nat.mul_le_mul hn hm2) (by omega)
  have e0:max 1 ((n:Int)+1).toNat=n+1:=by omega
  have e1:max 0 ((n:Nat):Int).toNat=n:=by omega
  obtain ⟨all,views,eb,ea,b1,b2,b3,b4,b5⟩:=AE s (L:=n*m) (Ek (n:=n) (t:=t) (m:=m) (res:=res) s.sup) (by omega) hv.1 (fun j hj=>Nat.le_trans (hv.2 j hj) hB) hr
  unfold fv
  simp only
  rw [s.N,e0,bT (by omega),bS,Nat.add_sub_cancel,El s F hn ht hm hm2,bS,eb,bS,e1,bT (by omega),bS,Nat.sub_zero,Cc F s.N hn hm hm2 b1.len,bS]
  refine ⟨all,views,rfl,fun i hi hh=>?_,b4,fun j hj=>?_⟩
  · rcases hh with h | h
    · exact b2 i hi h
    · rw [b3 h]
  · rw [b5 j hj,List.length_append]
    have:=hv.2 j hj
    have:(yE net.ah all j n).length≤n:=zG
    omega
end
end Pu

/- Plain laws of chapter 22: the judgement. -/
set_option linter.unusedVariables false
namespace Pu
open Gw Gl Sp
/-- what is opened -/
def z3 (res:aS) (n t:Nat) (cl:List (Nat × Nat × Nat)) (q:Nat):List (List Nat):=shr res n (cl.getD (q / (t+3)) (0,0,0)).2.1 ((cl.getD (q / (t+3)) (0,0,0)).2.2*(t+3)+q % (t+3))
def yq (t:Nat) (cl:List (Nat × Nat × Nat)) (q:Nat):Nat:=(cl.getD (q / (t+3)) (0,0,0)).1
theorem PR {k t j:Nat} (h:j < t+3):(k*(t+3)+j) / (t+3)=k∧(k*(t+3)+j) % (t+3)=j:=by
  rw [Nat.mul_comm]
  exact ⟨by rw [Nat.mul_add_div (by omega),Nat.div_eq_of_lt h,Nat.add_zero],by rw [Nat.mul_add_mod,Nat.mod_eq_of_lt h]⟩
theorem Qg {q k t:Nat} (h:q < k*(t+3)):q / (t+3) < k:=Nat.div_lt_of_lt_mul (by rw [Nat.mul_comm];exact h)
theorem Cn {net:ai} {S:aD} {t:Nat} {res:aS} (hT:S.T=(t:Int)) (ht:t≤2):cJ (⟨net,S,res⟩:aC)=some ((t+3:Nat):Int):=by
  have e1:((t:Nat):Int)+3=((t+3:Nat):Int):=by omega
  unfold cJ
  simp only
  rw [hT,bk (by omega) (by omega),bS,e1]
theorem Ba {net:ai} {S:aD} {p n t m:Nat} {res:aS} (F:Fm p n t (m*(t+3)) res) (hT:S.T=(t:Int)) (hn:n≤7) (ht:t≤2) (hm:m≤2) {cl:List (Nat × Nat × Nat)} (hl:cl.length≤98) (hc:∀ c ∈ cl,c.1 < n∧c.2.1 < n∧c.2.2 < m) :
    cV (fun k1 (st:(List (List (List Nat))) × (List Int))=>dG ⟨net,S,res⟩ (cl.map o9) k1 st.1 st.2) cl.length 0 ([],[])=some ((List.range (cl.length*(t+3))).map (z3 res n t cl),(List.range (cl.length*(t+3))).map fun q=>((yq t cl q+1:Nat):Int)):=by
  have hm10:m*(t+3)≤10:=Nat.le_trans (Nat.mul_le_mul hm (show t+3≤5 by omega)) (by omega)
  have e2:max 0 (((t+3:Nat):Int)).toNat=t+3:=by omega
  obtain ⟨r,e,h⟩:=bo (body:=fun k1 (st:(List (List (List Nat))) × (List Int))=>dG ⟨net,S,res⟩ (cl.map o9) k1 st.1 st.2) (fun k st=>st=((List.range (k*(t+3))).map (z3 res n t cl),(List.range (k*(t+3))).map fun q=>((yq t cl q+1:Nat):Int))) (rem:=cl.length) (k:=0) (s:=([],[])) (by rw [Nat.zero_mul];rfl) (fun k st _ hk hst=>by
    have hkl:k < cl.length:=by omega
    obtain ⟨c1,c2,c3⟩:=hc _ (getD_in (d:=(0,0,0)) hkl)
    have hg:(cl.map o9)[k]?=some (o9 (cl.getD k (0,0,0))):=by rw [List.getElem?_map,ix (0,0,0) hkl];rfl
    have hb:k*(t+3)+(t+3)≤490:=by
      rw [← Nat.succ_mul]
      exact Nat.le_trans (Nat.mul_le_mul (show k+1≤98 by omega) (show t+3≤5 by omega)) (by omega)
    subst hst
    unfold dG
    rw [hg,bS,Cn hT ht,bS,e2,bT (by omega),bS,Nat.sub_zero]
    simp only
    obtain ⟨r,er,hr⟩:=bo (body:=fun k2 (st:(List (List (List Nat))) × (List Int))=>fa ⟨net,S,res⟩ (o9 (cl.getD k (0,0,0))) k2 st.1 st.2) (fun j st=>st=((List.range (k*(t+3)+j)).map (z3 res n t cl),(List.range (k*(t+3)+j)).map fun q=>((yq t cl q+1:Nat):Int))) (rem:=t+3) (k:=0) (s:=((List.range (k*(t+3))).map (z3 res n t cl),(List.range (k*(t+3))).map fun q=>((yq t cl q+1:Nat):Int))) rfl (fun j st _ hj hst=>by
      have hj3:j < t+3:=by omega
      obtain ⟨d1,d2⟩:=PR (k:=k) hj3
      have o1:z3 res n t cl (k*(t+3)+j)=shr res n (cl.getD k (0,0,0)).2.1 ((cl.getD k (0,0,0)).2.2*(t+3)+j):=by unfold z3;rw [d1,d2]
      have o2:yq t cl (k*(t+3)+j)=(cl.getD k (0,0,0)).1:=by unfold yq;rw [d1]
      subst hst
      unfold fa o9
      simp only
      rw [rC F hT (by omega) hm10 c2 c3 hj3,bS,aM (by simp only [List.length_cons,List.length_nil,ko];omega) (by simp only [List.length_cons,List.length_nil,ko];omega),bS,aM (by simp only [List.length_cons,List.length_nil,ko];omega) (by simp only [List.length_cons,List.length_nil,ko];omega),bS]
      refine ⟨_,rfl,?_⟩
      rw [← Nat.add_assoc,List.range_succ,List.map_append,List.map_append]
      simp only [List.map_cons,List.map_nil,o1,o2])
    rw [er,bS,hr]
    refine ⟨_,rfl,?_⟩
    rw [Nat.zero_add,Nat.succ_mul])
  rw [e,h,Nat.zero_add]
/-- the first honest party -/
theorem AY {net:ai} {S:aD} {n t:Nat} {res:aS} (s:Sc net.zw n t):∃ j:Nat,ir ⟨net,S,res⟩=some ((j:Nat):Int)∧j < n:=by
  have h13:=s.n13
  have h3:=s.t3
  have hcl:=s.cl
  have hex:∃ j,j < n∧(((j:Nat):Int)+1) ∉ net.zw.af:=by
    have h1:=zU s
    obtain ⟨m1,m2⟩:=vh (w:=net.zw) (n:=n) (i:=0) (by omega)
    exact ⟨_,m1,m2⟩
  obtain ⟨j0,hj0,hj1⟩:=hex
  unfold ir bp
  rw [bS]
  simp only
  obtain ⟨r,er,hr⟩:=ny (step:=fun (st:Int)=>iY net.zw st) (fun st=>∃ k:Nat,st=((k+1:Nat):Int)∧k≤j0) (fun r=>∃ j:Nat,r=.inl ((j:Nat):Int)∧j < n) (fun st=>n+1 - st.toNat) (fun st ⟨k,hst,hk⟩=>by
    subst hst
    unfold iY
    rw [Nat.sub_zero]
    obtain ⟨b,eb,hb⟩:=bo (body:=fun k1 (st:Bool)=>iZ net.zw ((k+1:Nat):Int) k1 st) (fun q b=>b=decide (∃ i,i < q∧net.zw.af.getD i 0=((k+1:Nat):Int))) (rem:=net.zw.af.length) (k:=0) (s:=false) (by
      symm;exact decide_eq_false (fun ⟨i,hi,_⟩=>by omega)) (fun q b _ hq hb=>by
        unfold iZ
        rw [ix 0 (by omega),bS,hb]
        by_cases g:∃ i,i < q∧net.zw.af.getD i 0=((k+1:Nat):Int)
        · rw [decide_eq_true g,cT]
          obtain ⟨i,hi,h⟩:=g
          refine ⟨_,rfl,(decide_eq_true ⟨i,by omega,h⟩).symm⟩
        · rw [decide_eq_false g,cF]
          refine ⟨_,rfl,?_⟩
          by_cases g2:net.zw.af.getD q 0=((k+1:Nat):Int)
          · rw [eT g2];exact (decide_eq_true ⟨q,by omega,g2⟩).symm
          · rw [eF g2]
            refine (decide_eq_false fun ⟨i,hi,h⟩=>?_).symm
            by_cases gi:i=q
            · subst gi;exact g2 h
            · exact g ⟨i,by omega,h⟩)
    rw [eb,bS,hb,Nat.zero_add]
    by_cases g:∃ i,i < net.zw.af.length∧net.zw.af.getD i 0=((k+1:Nat):Int)
    · have hk2:k < j0:=by
        rcases Nat.lt_or_ge k j0 with h | h
        · exact h
        · exfalso
          have:k=j0:=by omega
          subst this
          obtain ⟨i,hi,h⟩:=g
          apply hj1
          have:=getD_in (d:=(0:Int)) hi
          rw [h] at this
          exact this
      have e2:((k+1:Nat):Int)+1=((k+1+1:Nat):Int):=by omega
      rw [decide_eq_true g,nT,cF,bk (by omega) (by omega),bS,e2]
      exact ⟨_,rfl,⟨k+1,rfl,by omega⟩,by omega⟩
    · have e2:((k+1:Nat):Int) - 1=((k:Nat):Int):=by omega
      rw [decide_eq_false g,nF,cT,cD (by omega) (by omega),bS,e2]
      exact ⟨_,rfl,k,rfl,by omega⟩) (s:=((1:Nat):Int)) ⟨0,rfl,by omega⟩ (by omega)
  obtain ⟨j,rfl,hj⟩:=hr
  rw [er,bS]
  exact ⟨j,rfl,hj⟩
/-- the opened words do not fit -/
def Bd (p:Nat) [NeZero p] (t:Nat) (F0:Nat→Nat→Nat→List Nat) (c:Nat × Nat × Nat):Prop :=
  o p ((F0 c.2.1 (c.2.2*(t+3)) c.1).getD 0 0)*o p ((F0 c.2.1 (c.2.2*(t+3)+1) c.1).getD 0 0) - sm t (fun j=>o p (c.1+1) ^ (j+1)*o p ((F0 c.2.1 (c.2.2*(t+3)+(2+j)) c.1).getD 0 0))≠o p ((F0 c.2.1 (c.2.2*(t+3)+(2+t)) c.1).getD 0 0)
theorem DF {n:Nat} {l:List Bool} (h:l.length=n):iK (List.replicate n false) l=l:=by
  unfold iK
  rw [List.length_replicate,h,Nat.min_self,← h,List.take_length,List.drop_of_length_le (by rw [List.length_replicate];omega),List.append_nil]
theorem Cg {net:ai} {n t m B:Nat} [NeZero net.zw.S.P] {res:aS} (s:Sc net.zw n t) (F:Fm net.zw.S.P n t (m*(t+3)) res) (hn:n≤7) (ht:t≤2) (hm2:m≤2) {cl:List (Nat × Nat × Nat)} (hcl:cl.length≤98) (hc:∀ c ∈ cl,c.1 < n∧c.2.1 < n∧c.2.2 < m)
    (hv:VB n B net.au) (hB:B≤500) (hr:0≤net.ah∧net.ah≤1000) {F0:Nat→Nat→Nat→List Nat}
    (hf:∀ d,d < n→∀ k,k < m*(t+3)→∀ b,b < n→(F0 d k b).length≤t+1∧∀ i,i < n→(((i:Nat):Int)+1) ∉ net.zw.af→cc (P net.zw.S.P (xW res i d k)) (o net.zw.S.P (b+1))=cc (P net.zw.S.P (F0 d k b)) (o net.zw.S.P (i+1))) :
    ∃ out round views,iu ⟨net,net.zw.S,res⟩ (cl.map o9)=some (out,round,views)∧out.length=n∧(∀ d,d < n→(out.getD d false=true ↔ res.aZ.getD d false=true ∨ ∃ c ∈ cl,c.2.1=d∧Bd net.zw.S.P t F0 c))∧VB n (B+n) views∧(round=net.ah ∨ round=net.ah+1)∧(cl=[]→round=net.ah):=by
  have hp:=s.sup
  have hlt:=hp.lt
  have h4:=s.n4
  have hm10:m*(t+3)≤10:=Nat.le_trans (Nat.mul_le_mul hm2 (show t+3≤5 by omega)) (by omega)
  have e2:max 0 (((t+3:Nat):Int)).toNat=t+3:=by omega
  obtain ⟨w,zr,zv,zt⟩:=net
  simp only at *
  unfold iu
  simp only
  rw [s.N,ck (by omega) (by omega) (by omega) (by omega),bS,Int.toNat_natCast,List.length_map,Nat.sub_zero,Ba F s.T hn ht hm2 hcl hc,bS]
  simp only
  rw [DF F.dl]
  by_cases h0:cl.length=0
  · have:cl=[]:=List.length_eq_zero_iff.1 h0
    subst this
    obtain ⟨j0,ej,hj⟩:=AY (net:=⟨w,zr,zv,zt⟩) (S:=w.S) (res:=res) s
    unfold hO bp
    rw [bS]
    simp only
    rw [s.N,ck (by omega) (by omega) (by omega) (by omega),bS,eT (by simp),cT,bS]
    simp only
    rw [ej,bS]
    refine ⟨_,_,_,rfl,F.dl,fun d hd=>⟨fun h=>.inl h,fun h=>?_⟩,⟨hv.1,fun j hj=>by have:=hv.2 j hj;omega⟩,.inl rfl,fun _=>rfl⟩
    rcases h with h | ⟨c,hc,_⟩
    · exact h
    · cases hc
  have hb490:cl.length*(t+3)≤490:=Nat.le_trans (Nat.mul_le_mul hcl (show t+3≤5 by omega)) (by omega)
  have hpos:0 < cl.length*(t+3):=Nat.mul_pos (by omega) (by omega)
  have hC:∀ q,q < cl.length*(t+3)→(cl.getD (q / (t+3)) (0,0,0)).1 < n∧(cl.getD (q / (t+3)) (0,0,0)).2.1 < n∧(cl.getD (q / (t+3)) (0,0,0)).2.2*(t+3)+q % (t+3) < m*(t+3):=fun q hq=>by
    obtain ⟨c1,c2,c3⟩:=hc _ (getD_in (d:=(0,0,0)) (Qg hq))
    refine ⟨c1,c2,?_⟩
    have h1:(cl.getD (q / (t+3)) (0,0,0)).2.2*(t+3)+(t+3)≤m*(t+3):=by rw [← Nat.succ_mul];exact Nat.mul_le_mul_right (t+3) c3
    have:=Nat.mod_lt q (show 0 < t+3 by omega)
    omega
  obtain ⟨rows,views,er,r1,r2,r3⟩:=GJ (net:=⟨w,zr,zv,zt⟩) (m:=cl.length*(t+3)) (a:=yq t cl) (B:=B) (w:=(List.range (cl.length*(t+3))).map (z3 res n t cl)) (ats:=(List.range (cl.length*(t+3))).map fun q=>((yq t cl q+1:Nat):Int)) s (by omega) ko hpos (fun q hq=>by
      obtain ⟨c1,c2,c3⟩:=hC q hq
      rw [jf hq]
      unfold z3
      refine ⟨Ad,fun i hi=>?_⟩
      rw [lf hi]
      obtain ⟨w1,w2⟩:=F.ww i hi _ c2 _ c3
      exact ⟨by omega,w2⟩) ko (fun q hq=>⟨jf hq,(hC q hq).1⟩) hv hB hr (f0:=fun q=>F0 (cl.getD (q / (t+3)) (0,0,0)).2.1 ((cl.getD (q / (t+3)) (0,0,0)).2.2*(t+3)+q % (t+3)) (yq t cl q)) (fun q hq=>by
      obtain ⟨c1,c2,c3⟩:=hC q hq
      obtain ⟨g1,g2⟩:=hf _ c2 _ c3 _ c1
      refine ⟨g1,fun i hi hci=>?_⟩
      rw [jf hq]
      unfold z3
      rw [lf hi]
      exact g2 i hi hci)
  simp only at er
  rw [er,bS]
  simp only
  obtain ⟨j0,ej,hj⟩:=AY (net:=⟨w,zr+1,views,zt⟩) (S:=w.S) (res:=res) s
  rw [ej,bS]
  obtain ⟨q1,q2⟩:=r2 j0 hj
  have hgr:gM rows ((j0:Nat):Int)=some (rows.getD j0 []):=by rw [aX [] (by omega) (by omega),Int.toNat_natCast]
  generalize rows.getD j0 []=R0 at *
  have hfit:∀ k,k < cl.length→(Pu.hv w.S.P t (cl.getD k (0,0,0)).1 (Aj t fun j=>R0.getD (k*(t+3)+j) [])=false ↔ Bd w.S.P t F0 (cl.getD k (0,0,0))):=fun k hk=>by
    have hk3:k*(t+3)+(t+3)≤cl.length*(t+3):=by rw [← Nat.succ_mul];exact Nat.mul_le_mul_right (t+3) hk
    have ho:∀ j,j < t+3→o w.S.P ((R0.getD (k*(t+3)+j) []).getD 0 0)=o w.S.P ((F0 (cl.getD k (0,0,0)).2.1 ((cl.getD k (0,0,0)).2.2*(t+3)+j) (cl.getD k (0,0,0)).1).getD 0 0):=fun j hj=>by
      obtain ⟨d1,d2⟩:=PR (k:=k) hj
      have:=(q2 (k*(t+3)+j) (by omega)).2.2 0
      unfold yq at this
      rw [d1,d2] at this
      exact this
    rw [zV,decide_eq_false_iff_not]
    unfold Bd
    rw [ho 0 (by omega),ho 1 (by omega),ho (2+t) (by omega),bY fun j hj=>by rw [ho (2+j) (by omega)],Nat.add_zero]
  obtain ⟨out,eo,o1,o2⟩:=bo (body:=fun k3 (st:(List Bool))=>i4 ⟨⟨w,zr,zv,zt⟩,w.S,res⟩ (cl.map o9) (rows,zr+1,views) ((j0:Nat):Int) k3 st)
    (fun k l=>l.length=n∧∀ d,d < n→(l.getD d false=true ↔ res.aZ.getD d false=true ∨ ∃ i,i < k∧(cl.getD i (0,0,0)).2.1=d∧Bd w.S.P t F0 (cl.getD i (0,0,0)))) (rem:=cl.length) (k:=0) (s:=res.aZ)
    ⟨F.dl,fun d hd=>⟨fun h=>.inl h,fun h=>by
      rcases h with h | ⟨i,hi,_⟩
      · exact h
      · omega⟩⟩ (fun k l _ hk ⟨o1,o2⟩=>by
      have hkl:k < cl.length:=by omega
      obtain ⟨c1,c2,c3⟩:=hc _ (getD_in (d:=(0,0,0)) hkl)
      have hg:(cl.map o9)[k]?=some (o9 (cl.getD k (0,0,0))):=by rw [List.getElem?_map,ix (0,0,0) hkl];rfl
      have hk3:k*(t+3)+(t+3)≤cl.length*(t+3):=by rw [← Nat.succ_mul];exact Nat.mul_le_mul_right (t+3) hkl
      have hfk:=hfit k hkl
      have e3:((k*(t+3):Nat):Int)=((k*(t+3):Nat):Int):=rfl
      unfold i4
      simp only
      rw [hg,bS,Cn s.T ht,bS,e2,bT (by omega),bS,Nat.sub_zero,gk (fun j=>(R0.getD (k*(t+3)+j) []).getD 0 0) (fun j l hj hl=>by
        have e4:((k*(t+3):Nat):Int)+((j:Nat):Int)=((k*(t+3)+j:Nat):Int):=by omega
        have hw:=(q2 (k*(t+3)+j) (by omega)).1
        unfold lF
        simp only
        rw [hgr,bS,mulN (by omega),bS,bk (by omega) (by omega),bS,e4,aX [] (by omega) (by omega),bS,Int.toNat_natCast,ix 0 (by omega),bS,aM (by simp only [List.length_cons,List.length_nil];omega) (by simp only [List.length_cons,List.length_nil];omega),bS]),bS]
      generalize hck:cl.getD k (0,0,0)=c at *
      have hvec:((List.range (t+3)).map fun j=>(R0.getD (k*(t+3)+j) []).getD 0 0)=Aj t fun j=>R0.getD (k*(t+3)+j) []:=rfl
      rw [hvec]
      unfold o9
      simp only
      rw [xH (p:=w.S.P) (t:=t) hp rfl (by omega) Ak (Ha hp fun j hj=>(q2 (k*(t+3)+j) (by omega)).2.1) ht,bS]
      cases hh:Pu.hv w.S.P t c.1 (Aj t fun j=>R0.getD (k*(t+3)+j) [])
      · have e3:((c.2.1+1:Nat):Int) - 1=((c.2.1:Nat):Int):=by omega
        rw [nF,cT,cD (by omega) (by omega),bS,e3,aX false (by omega) (by omega),bS,Int.toNat_natCast,bS]
        refine ⟨_,rfl,by rw [List.length_set];exact o1,fun d hd=>?_⟩
        rw [aL (by omega)]
        by_cases g:c.2.1=d
        · rw [if_pos g]
          exact ⟨fun _=>.inr ⟨k,by omega,by rw [hck];exact ⟨g,hfk.1 hh⟩⟩,fun _=>rfl⟩
        · rw [if_neg g,o2 d hd]
          refine or_congr_right ⟨fun ⟨i,hi,h⟩=>⟨i,by omega,h⟩,fun ⟨i,hi,h⟩=>?_⟩
          by_cases gi:i=k
          · subst gi;rw [hck] at h;exact absurd h.1 g
          · exact ⟨i,by omega,h⟩
      · rw [nT,cF]
        refine ⟨_,rfl,o1,fun d hd=>?_⟩
        rw [o2 d hd]
        refine or_congr_right ⟨fun ⟨i,hi,h⟩=>⟨i,by omega,h⟩,fun ⟨i,hi,h⟩=>?_⟩
        by_cases gi:i=k
        · subst gi;rw [hck] at h
          rw [hfk.2 h.2] at hh;cases hh
        · exact ⟨i,by omega,h⟩)
  rw [Nat.zero_add] at o2
  rw [eo,bS]
  refine ⟨out,_,views,rfl,o1,fun d hd=>?_,r3,.inr rfl,fun h=>absurd (by rw [h];rfl) h0⟩
  rw [o2 d hd]
  refine or_congr_right ⟨fun ⟨i,hi,h⟩=>⟨_,getD_in hi,h⟩,fun ⟨c,hcm,h⟩=>?_⟩
  obtain ⟨i,hi,rfl⟩:=List.getElem_of_mem hcm
  refine ⟨i,hi,?_⟩
  have:cl.getD i (0,0,0)=cl[i]:=by rw [List.getD_eq_getElem?_getD,List.getElem?_eq_getElem hi];rfl
  rw [this];exact h
end Pu
