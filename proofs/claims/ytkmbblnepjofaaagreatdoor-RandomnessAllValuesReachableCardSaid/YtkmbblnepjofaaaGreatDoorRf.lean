/- Plain laws of opening rows. -/
import Derived.Test.YtkmbblnepjofaaaGreatDoorPk
import Derived.Test.YtkmbblnepjofaaaGreatDoorPl
set_option linter.unusedVariables false
namespace Pu
open Gw Gl Sp Lean.Grind
end Pu

/- Plain laws of interpolating symmetric polynomials. -/
set_option linter.unusedVariables false
namespace Pu
open Gw Gl Sp
theorem Ik {a b:List Nat} {n:Nat} (h1:a.length=n) (h2:b.length=n) (h:∀ i,i < n→a.getD i 0=b.getD i 0):a=b:=by
  apply List.ext_getElem?
  intro i
  by_cases g:i < n
  · rw [ix 0 (by omega),ix 0 (by omega),h i g]
  · rw [List.getElem?_eq_none (by omega),List.getElem?_eq_none (by omega)]
theorem xg {l:List Nat} {v:Nat} (h:∀ i,i < l.length→l.getD i 0≠v):dS l v=some false:=by
  unfold dS gJ
  rw [Nat.sub_zero]
  obtain ⟨o,e,ho⟩:=ef (body:=fun k1 (st:Unit)=>fK l v k1) (fun k _=>True) (fun _=>False) (rem:=l.length) (k:=0) (s:=()) trivial (fun k _ _ hk _=>by
    have hkl:k < l.length:=by omega
    unfold fK
    rw [ix 0 hkl,bS,eF (fun g=>h k hkl (by omega)),cF]
    exact ⟨_,rfl,trivial⟩)
  rw [e,bS]
  cases o with
  | fin r=>exact ho.elim
  | go s=>rw [oG,bS,dF (by omega)]
theorem Bw (a:List Nat):eW a a=some true:=by
  unfold eW
  rw [qF rfl,cF,Nat.sub_zero]
  obtain ⟨o,e,ho⟩:=ef (body:=fun k1 (st:Unit)=>fJ a a k1) (fun k _=>True) (fun _=>False) (rem:=a.length) (k:=0) (s:=()) trivial (fun k _ _ hk _=>by
    unfold fJ
    rw [ix 0 (show k < a.length by omega),bS,bS,qF rfl,cF]
    exact ⟨_,rfl,trivial⟩)
  rw [e,bS]
  cases o with
  | fin r=>exact ho.elim
  | go s=>rw [oG]
theorem en {α:Type} {n i:Nat} {v:Nat→α} {d:α} (h:i < n):((List.range n).map v).getD i d=v i:=by
  rw [List.getD_eq_getElem?_getD,List.getElem?_map,List.getElem?_range h];rfl
theorem eE {α:Type} {n:Nat} {v:Nat→α}:((List.range n).map v).length=n:=by simp
theorem Bp {n i:Nat} {f:List Nat} (h:f.length≤n):(sE (List.replicate n 0) f).length=n∧(sE (List.replicate n 0) f).getD i 0=f.getD i 0:=by
  unfold sE
  rw [List.length_replicate,Nat.min_eq_left h,List.take_length,List.drop_replicate]
  refine ⟨by simp;omega,?_⟩
  rw [List.getD_eq_getElem?_getD,List.getD_eq_getElem?_getD]
  by_cases g:i < f.length
  · rw [List.getElem?_append_left g]
  · rw [List.getElem?_append_right (by omega),List.getElem?_eq_none (show f.length≤i by omega),List.getElem?_replicate]
    split <;> rfl
section
variable {p:Nat} [NeZero p]
theorem te (hp:fM p) {X:Nat→Fin p} {n:Nat} (ne:∀ i j,i < n→j < n→i≠j→X i≠X j) {f g:List (Fin p)} (hf:f.length≤n) (hg:g.length≤n) (h:∀ i,i < n→dy f (X i)=dy g (X i)) (i:Nat):cf f i=cf g i:=by
  refine wm hp.nz (xs:=(List.range n).map X) ?_ (by simpa using hf) (by simpa using hg) (fun x hx=>?_) i
  · rw [List.Nodup,List.pairwise_iff_getElem]
    intro i j hi hj hij
    simp only [List.length_map,List.length_range] at hi hj
    simp only [List.getElem_map,List.getElem_range]
    exact ne i j hi hj (by omega)
  · obtain ⟨i,hi,rfl⟩:=List.mem_map.1 hx
    exact h i (by simpa using hi)
theorem Ah (f:List (Fin p)):dy f 0=cf f 0:=by
  cases f with
  | nil=>rfl
  | cons a t=>rw [dy,ta];grind
/-- the coefficients in x of the columns c at y -/
def ul (c:Nat→List Nat) (m:Nat) (y:Fin p):List (Fin p):=(List.range m).map fun a=>sm m fun j=>o p ((c j).getD a 0)*y ^ j
theorem vz {c:Nat→List Nat} {m:Nat} (hc:∀ j,j < m→(c j).length=m) (y x:Fin p):dy (ul c m y) x=sm m fun j=>dy (P p (c j)) x*y ^ j:=by
  rw [vp (n:=m) x (by unfold ul;simp)]
  have e1:sm m (fun j=>cf (ul c m y) j*x ^ j)=sm m fun a=>sm m fun j=>o p ((c j).getD a 0)*y ^ j*x ^ a:=bO fun a ha=>by
    show (ul c m y).getD a 0*x ^ a=_
    unfold ul
    rw [en ha]
    have:∀ z:Fin p,sm m (fun j=>o p ((c j).getD a 0)*y ^ j)*z=z*sm m (fun j=>o p ((c j).getD a 0)*y ^ j):=fun z=>by grind
    rw [this,← mw]
    exact bO fun j _=>by grind
  rw [e1,tE]
  exact bO fun j hj=>by
    rw [oJ (n:=m) (by rw [hc j hj];exact Nat.le_refl m)]
    have:∀ z:Fin p,sm m (fun a=>o p ((c j).getD a 0)*x ^ a)*z=z*sm m (fun a=>o p ((c j).getD a 0)*x ^ a):=fun z=>by grind
    rw [this,← mw]
    exact bO fun a _=>by grind
theorem yB {c:Nat→List Nat} {m:Nat} {y:Fin p}:(ul c m y).length=m:=by unfold ul;simp
theorem GV {c:Nat→List Nat} {m a:Nat} {y:Fin p} (h:a < m):cf (ul c m y) a=sm m fun j=>o p ((c j).getD a 0)*y ^ j:=by
  show (ul c m y).getD a 0=_
  unfold ul
  rw [en h]
/-- rows at places that belong together -/
structure Gd (p:Nat) [NeZero p] (xs:List Nat) (rows:List (List Nat)) (t N:Nat):Prop where
  xl:xs.length=N
  rl:rows.length=N
  tN:t+1≤N
  N7:N≤7
  t2:t≤2
  x:∀ i,i < N→0 < xs.getD i 0∧xs.getD i 0 < p
  ne:∀ i j,i < N→j < N→i≠j→xs.getD i 0≠xs.getD j 0
  w:∀ i,i < N→(rows.getD i []).length=t+1∧Lt p (rows.getD i [])
  cs:∀ i,i < N→∀ j,j < N→dy (P p (rows.getD i [])) (o p (xs.getD j 0))=dy (P p (rows.getD j [])) (o p (xs.getD i 0))
  sp:∀ y:Fin p,∃ g:List (Fin p),g.length≤t+1∧∀ i,i < N→dy (P p (rows.getD i [])) y=dy g (o p (xs.getD i 0))
variable {xs:List Nat} {rows:List (List Nat)} {t N:Nat}
theorem GU (hp:fM p) (g:Gd p xs rows t N):m9 ((t:Nat):Int) xs rows=some true:=by
  obtain ⟨xl,rl,tN,N7,t2,hx,ne,hw,cs,sp⟩:=g
  have e1:((t:Nat):Int)+1=((t+1:Nat):Int):=by omega
  unfold m9
  rw [dF (by omega),cF,qF (by omega),cF,bd (by omega) (by omega),bS,dF (by omega),bS,cF,Nat.sub_zero,xl]
  obtain ⟨o,e,ho⟩:=ef (body:=fun k1 (st:Unit)=>mV ((t:Nat):Int) xs rows k1) (fun k _=>True) (fun _=>False) (rem:=N) (k:=0) (s:=()) trivial (fun k _ _ hk _=>by
    have hkl:k < N:=by omega
    unfold mV
    rw [ix 0 (by omega),bS,gP (by omega) (by omega) (by omega),bS,xg (fun i hi=>by
      simp only [Int.toNat_natCast,Int.toNat_zero,List.drop_zero,Nat.sub_zero,List.length_take] at hi ⊢
      have:(List.take k xs).getD i 0=xs.getD i 0:=by rw [List.getD_eq_getElem?_getD,List.getD_eq_getElem?_getD,List.getElem?_take_of_lt (by omega)]
      rw [this]
      exact ne i k (by omega) hkl (by omega)),bS,cF,ix [] (by omega),bS,bd (by omega) (by omega),bS,qF (by rw [(hw k hkl).1];omega),cF]
    exact ⟨_,rfl,trivial⟩)
  rw [e,bS]
  cases o with
  | fin r=>exact ho.elim
  | go s=>rw [oG]
theorem zk (hp:fM p) (g:Gd p xs rows t N) {j:Nat} (hj:j < t+1):∃ c,iY p ((t:Nat):Int) xs rows ((j:Nat):Int)=some (c,0)∧c.length=t+1∧Lt p c∧∀ i,i < t+1→dy (P p c) (o p (xs.getD i 0))=o p ((rows.getD i []).getD j 0):=by
  obtain ⟨xl,rl,tN,N7,t2,hx,ne,hw,cs,sp⟩:=g
  have e1:((t:Nat):Int)+1=((t+1:Nat):Int):=by omega
  have e2:(max 0 (((t+1:Nat):Int))).toNat=t+1:=by omega
  have e2':max 0 (((t+1:Nat):Int).toNat)=t+1:=by omega
  unfold iY
  rw [bd (by omega) (by omega),bS,e1,e2',bZ (by omega),bS,Nat.sub_zero,gA (fun i=>(⟨xs.getD i 0,(rows.getD i []).getD j 0⟩:bP)) (fun k l hk hl=>by
    unfold nY
    rw [ix 0 (by omega),bS,ix [] (by omega),bS,aQ 0 (by omega) (by rw [(hw k (by omega)).1];omega),bS,Int.toNat_natCast,aO (by simp only [List.length_cons,List.length_nil];omega) (by simp only [List.length_cons,List.length_nil];omega),bS]),bS]
  obtain ⟨g,eg,g1,g2,g3⟩:=BI (pts:=(List.range (t+1)).map fun i=>(⟨xs.getD i 0,(rows.getD i []).getD j 0⟩:bP)) (X:=fun i=>xs.getD i 0) (Y:=fun i=>(rows.getD i []).getD j 0) hp ⟨fun i hi=>by
    rw [eE] at hi
    rw [List.getElem?_map,List.getElem?_range hi];rfl,fun i hi=>by
    rw [eE] at hi
    exact ⟨(hx i (by omega)).1,(hx i (by omega)).2,(hw i (by omega)).2.get hp.pos j⟩,fun i j hi hj h=>by
    rw [eE] at hi hj
    exact ne i j (by omega) (by omega) h⟩ (by rw [eE];omega) (by rw [eE];omega)
  rw [eE] at g2 g3
  rw [eg,bS,cV (by omega) (by omega) (by omega) (by omega),bS,Int.toNat_natCast]
  have hc:=fun i=>Bp (i:=i) g2
  refine ⟨_,rfl,(hc 0).1,fun i hi=>by rw [(hc i).2];exact g1.get hp.pos i,fun i hi=>?_⟩
  rw [← g3 i hi]
  exact oj (fun k=>by rw [re,re,(hc k).2]) _
/-- the matrix of the columns -/
def ya (c:Nat→List Nat) (m:Nat):List (List Nat):=(List.range m).map fun i=>(List.range m).map fun j=>(c j).getD i 0
theorem rr {c:Nat→List Nat} {m i j:Nat} (hi:i < m) (hj:j < m):((ya c m).getD i []).getD j 0=(c j).getD i 0:=by
  unfold ya
  rw [en hi,en hj]
theorem Jx {S:List (List Nat)} {m:Nat} (hm:0 < m) (hl:S.length=m) (hr:∀ i,i < m→(S.getD i []).length=m) (h:∀ i,i < m→∀ j,j < m→(S.getD i []).getD j 0=(S.getD j []).getD i 0) (hm9:m≤100):gZ S=some true:=by
  unfold gZ
  rw [hl,Nat.sub_zero]
  obtain ⟨o,e,ho⟩:=ef (body:=fun k1 (st:Unit)=>iA S k1) (fun k _=>True) (fun _=>False) (rem:=m) (k:=0) (s:=()) trivial (fun k _ _ hk _=>by
    unfold iA
    rw [ix [] (by omega),bS,qF (by rw [hr k (by omega),hl]),cF]
    exact ⟨_,rfl,trivial⟩)
  rw [e,bS]
  cases o with
  | fin r=>exact ho.elim
  | go s =>
    rw [oG]
    obtain ⟨o,e,ho⟩:=ef (body:=fun k2 (st:Unit)=>iB S k2) (fun k _=>True) (fun _=>False) (rem:=m) (k:=0) (s:=()) trivial (fun k _ _ hk _=>by
      unfold iB
      rw [ix [] (by omega),bS,bZ (by omega),bS,Nat.sub_zero]
      obtain ⟨o,e,ho⟩:=ef (body:=fun k3 (st:Unit)=>iC S k (S.getD k []) k3) (fun k _=>True) (fun _=>False) (rem:=k) (k:=0) (s:=()) trivial (fun j _ _ hj _=>by
        unfold iC
        rw [ix 0 (by rw [hr k (by omega)];omega),bS,ix [] (by omega),bS,ix 0 (by rw [hr j (by omega)];omega),bS,h k (by omega) j (by omega),qF rfl,cF]
        exact ⟨_,rfl,trivial⟩)
      rw [e,bS]
      cases o with
      | fin r=>exact ho.elim
      | go s=>rw [oG];exact ⟨_,rfl,trivial⟩)
    rw [e,bS]
    cases o with
    | fin r=>exact ho.elim
    | go s=>rw [oG,dT (by omega)]
/-- interpolating rows that belong together -/
theorem zG (hp:fM p) (g:Gd p xs rows t N):∃ S,fB p ((t:Nat):Int) xs rows=some (S,0)∧S.length=t+1∧(S.getD 0 []).length=t+1∧(S.getD 0 []).getD 0 0 < p∧∀ h:List (Fin p),h.length≤t+1→(∀ i,i < N→dy (P p (rows.getD i [])) 0=dy h (o p (xs.getD i 0)))→o p ((S.getD 0 []).getD 0 0)=dy h 0:=by
  have hlt:=hp.lt
  have e1:((t:Nat):Int)+1=((t+1:Nat):Int):=by omega
  have hcol:=fun j (hj:j < t+1)=>zk hp g hj
  have hmay:=GU hp g
  obtain ⟨xl,rl,tN,N7,t2,hx,ne,hw,cs,sp⟩:=g
  have hex:∀ j,∃ c,j < t+1→iY p ((t:Nat):Int) xs rows ((j:Nat):Int)=some (c,0)∧c.length=t+1∧Lt p c∧∀ i,i < t+1→dy (P p c) (o p (xs.getD i 0))=o p ((rows.getD i []).getD j 0):=fun j=>by
    by_cases h:j < t+1
    · obtain ⟨c,hc⟩:=hcol j h
      exact ⟨c,fun _=>hc⟩
    · exact ⟨[],fun h'=>absurd h' h⟩
  obtain ⟨c,hc⟩:=Classical.axiomOfChoice hex
  have neX:∀ i j,i < t+1→j < t+1→i≠j→o p (xs.getD i 0)≠o p (xs.getD j 0):=fun i j hi hj h e=>ne i j (by omega) (by omega) h (pa (hx i (by omega)).2 (hx j (by omega)).2 e)
  have hcl:∀ j,j < t+1→(c j).length=t+1:=fun j hj=>(hc j hj).2.1
  have rowE:∀ i,i < N→∀ y,dy (P p (rows.getD i [])) y=sm (t+1) fun j=>o p ((rows.getD i []).getD j 0)*y ^ j:=fun i hi y=>oJ (by rw [(hw i hi).1];exact Nat.le_refl _) y
  -- the columns at every place
  have col:∀ i,i < N→∀ j,j < t+1→dy (P p (c j)) (o p (xs.getD i 0))=o p ((rows.getD i []).getD j 0):=fun i hi j hj=>by
    have all:∀ y,dy (ul c (t+1) y) (o p (xs.getD i 0))=dy (P p (rows.getD i [])) y:=fun y=>by
      obtain ⟨g,gl,gh⟩:=sp y
      have hcf:=te hp neX (f:=ul c (t+1) y) (g:=g) (by rw [yB];exact Nat.le_refl _) gl (fun k hk=>by
        rw [vz hcl,← gh k (by omega),rowE k (by omega)]
        exact bO fun j hj=>by rw [(hc j hj).2.2.2 k hk])
      rw [oj hcf,gh i hi]
    have h2:=te hp neX (f:=(List.range (t+1)).map fun j=>dy (P p (c j)) (o p (xs.getD i 0))) (g:=P p (rows.getD i [])) (by simp) (by rw [sD,(hw i hi).1];exact Nat.le_refl _) (fun k hk=>by
      rw [← all,vz hcl,vp (n:=t+1) _ (by simp)]
      exact bO fun j hj=>by
        show ((List.range (t+1)).map fun j=>dy (P p (c j)) (o p (xs.getD i 0))).getD j 0*_=_
        rw [en hj]) j
    rw [re] at h2
    rw [← h2]
    show _=((List.range (t+1)).map fun j=>dy (P p (c j)) (o p (xs.getD i 0))).getD j 0
    rw [en hj]
  have sym:∀ a,a < t+1→∀ b,b < t+1→(c b).getD a 0=(c a).getD b 0:=fun a ha b hb=>by
    have h1:∀ i,i < t+1→dy (P p (c b)) (o p (xs.getD i 0))=dy (P p ((List.range (t+1)).map fun a=>(c a).getD b 0)) (o p (xs.getD i 0)):=fun i hi=>by
      have h2:=te hp neX (f:=ul c (t+1) (o p (xs.getD i 0))) (g:=P p (rows.getD i [])) (by rw [yB];exact Nat.le_refl _) (by rw [sD,(hw i (by omega)).1];exact Nat.le_refl _) (fun k hk=>by
        rw [vz hcl,cs i (by omega) k (by omega),rowE k (by omega)]
        exact bO fun j hj=>by rw [col k (by omega) j hj]) b
      rw [re,GV hb] at h2
      rw [col i (by omega) b hb,← h2,oJ (n:=t+1) (by simp)]
      exact bO fun a ha=>by rw [en ha]
    have h3:=te hp neX (f:=P p (c b)) (g:=P p ((List.range (t+1)).map fun a=>(c a).getD b 0)) (by rw [sD,hcl b hb];exact Nat.le_refl _) (by rw [sD];simp) h1 a
    rw [re,re,en ha] at h3
    exact pa ((hc b hb).2.2.1.get hp.pos a) ((hc a ha).2.2.1.get hp.pos b) h3
  have hS:pQ p (t+1) (t+1) (ya c (t+1)):=⟨by unfold ya;simp,fun i hi=>by unfold ya;rw [en hi];simp,fun i hi j hj=>by rw [rr hi hj];exact (hc j hj).2.2.1.get hp.pos i⟩
  unfold fB
  rw [hmay,bS,nT,cF,bd (by omega) (by omega),bS,e1,cV (by omega) (by omega) (by omega) (by omega),bS,Int.toNat_natCast,List.length_replicate,Nat.sub_zero]
  obtain ⟨o1,eo,ho⟩:=ef (body:=fun k1 (st:(List (List Nat)))=>iv p ((t:Nat):Int) xs rows k1 st) (fun k l=>l=(List.range (t+1)).map fun i=>(List.range k).map fun j=>(c j).getD i 0) (fun _=>False) (rem:=t+1) (k:=0) (s:=List.replicate (t+1) [])
    (by
      apply List.ext_getElem
      · simp
      · intro i h1 h2
        simp) (fun k l _ hk hl=>by
    have hkt:k < t+1:=by omega
    obtain ⟨e2,c1,c2,_⟩:=hc k hkt
    have hll:l.length=t+1:=by rw [hl];simp
    unfold iv
    rw [e2,bS]
    simp only
    rw [qF rfl,cF,hll,Nat.sub_zero]
    obtain ⟨r,er,r1,r2,r3⟩:=bj (body:=fun k2 (st:(List (List Nat)))=>iw (c k,0) k2 st) (rem:=t+1) (k:=0) (s:=l)
      (fun q r=>r.length=t+1∧(∀ i,i < q→r.getD i []=(List.range (k+1)).map fun j=>(c j).getD i 0)∧∀ i,q≤i→i < t+1→r.getD i []=(List.range k).map fun j=>(c j).getD i 0)
      ⟨hll,fun i hi=>by omega,fun i _ hi=>by rw [hl,en hi]⟩ (fun q r _ hq ⟨r1,r2,r3⟩=>by
        have hqt:q < t+1:=by omega
        have hq0:=r3 q (Nat.le_refl q) hqt
        have hql:(r.getD q []).length=k:=by rw [hq0];simp
        unfold iw
        rw [ix [] (by omega),bS]
        simp only
        rw [ix 0 (by omega),bS,aO (by rw [hql];simp only [List.length_cons,List.length_nil];omega) (by rw [hql];simp only [List.length_cons,List.length_nil];omega),bS,bS]
        refine ⟨_,rfl,by rw [List.length_set];exact r1,fun i hi=>?_,fun i hi hit=>?_⟩
        · rw [aN (by omega)]
          by_cases g:q=i
          · rw [if_pos g,← g,hq0,List.range_succ,List.map_append];rfl
          · rw [if_neg g];exact r2 i (by omega)
        · rw [aN (by omega),if_neg (by omega)];exact r3 i (by omega) hit)
    rw [Nat.zero_add] at r2
    rw [er,bS]
    refine ⟨_,rfl,?_⟩
    apply List.ext_getElem?
    intro i
    by_cases g:i < t+1
    · rw [ix [] (by omega),r2 i g,List.getElem?_map,List.getElem?_range g];rfl
    · rw [List.getElem?_eq_none (by omega),List.getElem?_eq_none (by simp;omega)])
  rw [eo,bS]
  cases o1 with
  | fin r=>exact ho.elim
  | go l =>
    rw [Nat.zero_add] at ho
    have hl:l=ya c (t+1):=ho
    subst hl
    rw [oG,Jx (m:=t+1) (by omega) hS.len hS.row (fun i hi j hj=>by rw [rr hi hj,rr hj hi];exact sym i hi j hj) (by omega),bS,nT,cF,xl,Nat.sub_zero]
    obtain ⟨o2,e2,ho2⟩:=ef (body:=fun k3 (st:Unit)=>iy p xs rows (ya c (t+1)) k3) (fun k _=>True) (fun _=>False) (rem:=N) (k:=0) (s:=()) trivial (fun k _ _ hk _=>by
      have hkN:k < N:=by omega
      obtain ⟨w1,_,w3,w4,w5⟩:=oX hp hS (by omega) (hx k hkN).2
      have:Rw p (ya c (t+1)) (xs.getD k 0)=rows.getD k []:=Ik w3 (hw k hkN).1 fun j hj=>by
        refine pa (w4.get hp.pos j) ((hw k hkN).2.get hp.pos j) ?_
        rw [w5 j hj,← col k hkN j hj,oJ (n:=t+1) (by rw [hcl j hj];exact Nat.le_refl _)]
        exact bO fun a ha=>by rw [rr ha hj]
      unfold iy
      rw [ix 0 (by omega),bS,w1,bS,ix [] (by omega),bS,this,Bw,bS,nT,cF]
      exact ⟨_,rfl,trivial⟩)
    rw [e2,bS]
    cases o2 with
    | fin r=>exact ho2.elim
    | go s =>
      rw [oG]
      refine ⟨_,rfl,hS.len,hS.row 0 (by omega),hS.lt 0 (by omega) 0 (by omega),fun h hl hh=>?_⟩
      have h2:=te hp neX (f:=P p (c 0)) (g:=h) (by rw [sD,hcl 0 (by omega)];exact Nat.le_refl _) hl (fun i hi=>by
        rw [col i (by omega) 0 (by omega),← hh i (by omega),CI]) 0
      rw [rr (by omega) (by omega),Ah,← h2,re]
end
end Pu

/- Plain laws of sharings that stand: sums, nothing, the honest parties' matrix. -/
set_option linter.unusedVariables false
namespace Pu
open Gw Gl Sp
/-- the honest parties' rows belong to one symmetric polynomial, which is c at (0, 0) -/
structure tQ (w:ab) [NeZero w.S.P] (n t:Nat) (a:List (List Nat)) (c:Fin w.S.P):Prop where
  l:a.length=n
  r:∀ i,i < n→(a.getD i []).length=t+1∧Lt w.S.P (a.getD i [])
  cs:∀ i,i < n→Hn w i→∀ j,j < n→Hn w j→dy (P w.S.P (a.getD i [])) (o w.S.P (j+1))=dy (P w.S.P (a.getD j [])) (o w.S.P (i+1))
  sp:∀ y,∃ g:List (Fin w.S.P),g.length≤t+1∧(∀ i,i < n→Hn w i→dy (P w.S.P (a.getD i [])) y=dy g (o w.S.P (i+1)))∧(y=0→dy g 0=c)
theorem zM {l:List Nat} {k:Nat} (h:l.length≤k):l.getD k 0=0:=by
  rw [List.getD_eq_getElem?_getD,List.getElem?_eq_none h];rfl
theorem Il {f:Nat→Bool}:∀ {l:List Nat},l.length=(l.filter f).length+(l.filter fun x=>!f x).length
  | []=>rfl
  | a :: t=>by
    have:=Il (f:=f) (l:=t)
    cases h:f a <;> simp [List.filter_cons,h] <;> omega
section
variable {w:ab} {n t:Nat}
/-- the honest parties -/
def j0 (w:ab) (k:Nat):List Nat:=(List.range k).filter fun i=>decide ((((i:Nat):Int)+1) ∉ w.af)
theorem kX {k:Nat}:j0 w (k+1)=j0 w k++if (((k:Nat):Int)+1) ∉ w.af then [k] else []:=by
  unfold j0
  rw [List.range_succ,List.filter_append]
  by_cases g:(((k:Nat):Int)+1) ∉ w.af
  · rw [if_pos g,List.filter_cons,if_pos (by simpa using g),List.filter_nil]
  · rw [if_neg g,List.filter_cons,if_neg (by simpa using g),List.filter_nil]
theorem zF {k:Nat}:(j0 w k).length≤k:=Nat.le_trans (List.length_filter_le ..) (by simp)
theorem AN {i:Nat} (hi:i < (j0 w n).length):(j0 w n).getD i 0 < n∧(((((j0 w n).getD i 0:Nat)):Int)+1) ∉ w.af:=by
  obtain ⟨h1,h2⟩:=List.mem_filter.1 (getD_in (d:=0) hi)
  exact ⟨List.mem_range.1 h1,of_decide_eq_true h2⟩
theorem IU {i j:Nat} (hi:i < (j0 w n).length) (hj:j < (j0 w n).length) (hij:i≠j):(j0 w n).getD i 0≠(j0 w n).getD j 0:=by
  have hpw:(j0 w n).Pairwise (· < ·):=List.Pairwise.sublist List.filter_sublist List.pairwise_lt_range
  rw [List.getD_eq_getElem?_getD,List.getD_eq_getElem?_getD,List.getElem?_eq_getElem hi,List.getElem?_eq_getElem hj]
  show (j0 w n)[i]≠(j0 w n)[j]
  rcases Nat.lt_or_gt_of_ne hij with c | c
  · have:=List.pairwise_iff_getElem.1 hpw i j (by omega) (by omega) c;omega
  · have:=List.pairwise_iff_getElem.1 hpw j i (by omega) (by omega) c;omega
theorem AM (s:Sc w n t):n≤(j0 w n).length+t:=by
  have h1:((List.range n).filter fun i=>!decide ((((i:Nat):Int)+1) ∉ w.af)).length≤t:=by
    rw [← List.length_map (f:=fun i=>((i:Nat):Int)+1)]
    refine Nat.le_trans (u6 ?_ fun x hx=>?_) s.cl
    · rw [List.Nodup,List.pairwise_map]
      exact List.Pairwise.imp (fun {a b} h=>by omega) (List.Pairwise.filter _ List.nodup_range)
    · obtain ⟨i,hi,rfl⟩:=List.mem_map.1 hx
      have:=(List.mem_filter.1 hi).2
      simpa using this
  have h2:=Il (l:=List.range n) (f:=fun i=>decide ((((i:Nat):Int)+1) ∉ w.af))
  rw [List.length_range] at h2
  show n≤((List.range n).filter fun i=>decide ((((i:Nat):Int)+1) ∉ w.af)).length+t
  omega
end
section
variable {w:ab} [NeZero w.S.P] {n t:Nat}
theorem EA {p:Nat} (hp:fM p) {a b:List Nat} (ha:Lt p a) (hb:Lt p b) {m:Nat} (h1:a.length=m) (h2:b.length=m) (hm:m≤1000):mu a b p=some ((List.range m).map fun j=>(a.getD j 0+b.getD j 0) % p):=by
  have hlt:=hp.lt
  unfold mu dm
  rw [h1,cV (by omega) (by omega) (by omega) (by omega),bS,Int.toNat_natCast,Nat.sub_zero]
  obtain ⟨r,e,r1,r2⟩:=bj (body:=fun k1 (st:(List Nat))=>cR a b p k1 st) (fun k r=>r.length=m∧∀ j,j < k→r.getD j 0=(a.getD j 0+b.getD j 0) % p) (rem:=m) (k:=0) (s:=List.replicate m 0)
    ⟨by simp,fun j hj=>by omega⟩ (fun k r _ hk ⟨r1,r2⟩=>by
      have:=ha.get hp.pos k
      have:=hb.get hp.pos k
      unfold cR m4
      rw [ix 0 (by omega),bS,ix 0 (by omega),bS,sL hp (by omega),bS,bS,ix 0 (by omega),bS,bS]
      refine ⟨_,rfl,by rw [List.length_set];exact r1,fun j hj=>?_⟩
      rw [aN (by omega)]
      by_cases g:k=j
      · rw [if_pos g,g]
      · rw [if_neg g];exact r2 j (by omega))
  rw [Nat.zero_add] at r2
  rw [e,bS,bS,Ik r1 eE fun i hi=>by rw [r2 i hi,en hi]]
/-- the sum of two sharings -/
theorem tQ.add (hp:fM w.S.P) (hn:n≤13) (ht:t≤13) {a b:List (List Nat)} {c d:Fin w.S.P} (A:tQ w n t a c) (B:tQ w n t b d):∃ s,qK w.S.P a b=some s∧tQ w n t s (c+d):=by
  have hlt:=hp.lt
  have hw:=fun i (hi:i < n)=>EA hp (A.r i hi).2 (B.r i hi).2 (A.r i hi).1 (B.r i hi).1 (by omega)
  unfold qK ju dj
  rw [A.l,cV (by omega) (by omega) (by omega) (by omega),bS,Int.toNat_natCast,Nat.sub_zero]
  obtain ⟨r,e,r1,r2⟩:=bj (body:=fun k1 (st:(List (List Nat)))=>cQ a b w.S.P k1 st) (fun k r=>r.length=n∧∀ i,i < k→r.getD i []=(List.range (t+1)).map fun j=>((a.getD i []).getD j 0+(b.getD i []).getD j 0) % w.S.P) (rem:=n) (k:=0) (s:=List.replicate n [])
    ⟨by simp,fun j hj=>by omega⟩ (fun k r _ hk ⟨r1,r2⟩=>by
      unfold cQ
      rw [ix [] (by rw [A.l];omega),bS,ix [] (by rw [B.l];omega),bS,hw k (by omega),bS,ix [] (by omega),bS,bS]
      refine ⟨_,rfl,by rw [List.length_set];exact r1,fun j hj=>?_⟩
      rw [aN (by omega)]
      by_cases g:k=j
      · rw [if_pos g,g]
      · rw [if_neg g];exact r2 j (by omega))
  rw [Nat.zero_add] at r2
  rw [e,bS,bS,bS]
  have hev:∀ i,i < n→∀ y,dy (P w.S.P (r.getD i [])) y=dy (P w.S.P (a.getD i [])) y+dy (P w.S.P (b.getD i [])) y:=fun i hi y=>by
    rw [r2 i hi,← p9]
    refine oj (fun k=>?_) y
    rw [Ab,re,re,re]
    by_cases g:k < t+1
    · rw [en g,kK,vA]
    · rw [zM (by rw [eE];omega),zM (by rw [(A.r i hi).1];omega),zM (by rw [(B.r i hi).1];omega),kO];grind
  refine ⟨r,rfl,r1,fun i hi=>?_,fun i hi hhi j hj hhj=>?_,fun y=>?_⟩
  · rw [r2 i hi]
    refine ⟨eE,fun j hj=>?_⟩
    rw [eE] at hj
    rw [en hj]
    exact Nat.mod_lt _ hp.pos
  · rw [hev i hi,hev j hj,A.cs i hi hhi j hj hhj,B.cs i hi hhi j hj hhj]
  · obtain ⟨g,g1,g2,g3⟩:=A.sp y
    obtain ⟨h,h1,h2,h3⟩:=B.sp y
    refine ⟨oO g h,by rw [tu];omega,fun i hi hhi=>?_,fun hy=>?_⟩
    · rw [hev i hi,p9,g2 i hi hhi,h2 i hi hhi]
    · rw [p9,g3 hy,h3 hy]
/-- the rows of a symmetric matrix -/
theorem tQ.rows (s:Sc w n t) (ht:t≤2) {M:List (List Nat)} (hM:pQ w.S.P (t+1) (t+1) M) (hs:∀ i,i < t+1→∀ j,j < t+1→(M.getD i []).getD j 0=(M.getD j []).getD i 0) {a:List (List Nat)} (hl:a.length=n) (ha:∀ i,i < n→a.getD i []=Rw w.S.P M (i+1)):tQ w n t a (o w.S.P ((M.getD 0 []).getD 0 0)):=by
  have hp:=s.sup
  have hlt:=hp.lt
  have h13:=s.n13
  have hw:=fun i (hi:i < n)=>oX hp hM (by omega) (show i+1 < w.S.P by omega)
  refine ⟨hl,fun i hi=>by rw [ha i hi];exact ⟨(hw i hi).2.2.1,(hw i hi).2.2.2.1⟩,fun i hi _ j hj _=>?_,fun y=>⟨(List.range (t+1)).map fun b=>sm (t+1) fun a=>o w.S.P ((M.getD b []).getD a 0)*y ^ a,by simp,fun i hi _=>?_,fun hy=>?_⟩⟩
  · rw [ha i hi,ha j hj]
    have e1:=(jn hp (hw i hi).2.2.2.1 (show j+1 < w.S.P by omega) (by rw [(hw i hi).2.2.1];omega)).2.2
    have e2:=(jn hp (hw j hj).2.2.2.1 (show i+1 < w.S.P by omega) (by rw [(hw j hj).2.2.1];omega)).2.2
    rw [← e1,← e2,xA hp hM hs (by omega) (by omega) (by omega)]
  · rw [ha i hi,oJ (n:=t+1) (by rw [(hw i hi).2.2.1];exact Nat.le_refl _),vp (n:=t+1) _ (by simp)]
    have e1:sm (t+1) (fun j=>o w.S.P ((Rw w.S.P M (i+1)).getD j 0)*y ^ j)=sm (t+1) fun j=>sm (t+1) fun k=>o w.S.P ((M.getD k []).getD j 0)*y ^ j*o w.S.P (i+1) ^ k:=bO fun j hj=>by
      rw [(hw i hi).2.2.2.2 j hj]
      have:∀ z:Fin w.S.P,sm (t+1) (fun k=>o w.S.P ((M.getD k []).getD j 0)*o w.S.P (i+1) ^ k)*z=z*sm (t+1) (fun k=>o w.S.P ((M.getD k []).getD j 0)*o w.S.P (i+1) ^ k):=fun z=>by grind
      rw [this,← mw]
      exact bO fun k _=>by grind
    rw [e1,tE]
    exact bO fun k hk=>by
      show _=((List.range (t+1)).map fun b=>sm (t+1) fun a=>o w.S.P ((M.getD b []).getD a 0)*y ^ a).getD k 0*_
      rw [en hk]
      have:∀ z:Fin w.S.P,sm (t+1) (fun a=>o w.S.P ((M.getD k []).getD a 0)*y ^ a)*z=z*sm (t+1) (fun a=>o w.S.P ((M.getD k []).getD a 0)*y ^ a):=fun z=>by grind
      rw [this,← mw]
      exact bO fun a _=>by grind
  · rw [Ah,hy]
    show ((List.range (t+1)).map fun b=>sm (t+1) fun a=>o w.S.P ((M.getD b []).getD a 0)*0 ^ a).getD 0 0=_
    rw [en (by omega),vM,pj fun j _=>by grind]
    grind
end
end Pu
