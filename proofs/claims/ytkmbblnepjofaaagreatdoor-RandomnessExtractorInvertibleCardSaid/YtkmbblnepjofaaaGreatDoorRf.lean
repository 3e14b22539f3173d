/- Plain laws of opening rows. -/
import Derived.Test.YtkmbblnepjofaaaGreatDoorPk
import Derived.Test.YtkmbblnepjofaaaGreatDoorPl
set_option linter.unusedVariables false
namespace Pu
open Gw Gl Sp Lean.Grind
end Pu

/- Plain laws of interpolating symmetric polynomials. -/
set_option linter.unusedVariables false
namespace Pu
open Gw Gl Sp
theorem Gn {a b:List Nat} {n:Nat} (h1:a.length=n) (h2:b.length=n) (h:∀ i,i < n→a.getD i 0=b.getD i 0):a=b:=by
  apply List.ext_getElem?
  intro i
  by_cases g:i < n
  · rw [ix 0 (by omega),ix 0 (by omega),h i g]
  · rw [List.getElem?_eq_none (by omega),List.getElem?_eq_none (by omega)]
theorem uD {α:Type} {n i:Nat} {v:Nat→α} {d:α} (h:i < n):((List.range n).map v).getD i d=v i:=by
  rw [List.getD_eq_getElem?_getD,List.getElem?_map,List.getElem?_range h];rfl
theorem nP {α:Type} {n:Nat} {v:Nat→α}:((List.range n).map v).length=n:=by simp
section
variable {p:Nat} [NeZero p]
variable {xs:List Nat} {rows:List (List Nat)} {t N:Nat}
end
end Pu

/- Plain laws of sharings that stand: sums, nothing, the honest parties' matrix. -/
set_option linter.unusedVariables false
namespace Pu
open Gw Gl Sp
/-- the honest parties' rows belong to one symmetric polynomial, which is c at (0, 0) -/
structure FQ (w:ac) [NeZero w.S.P] (n t:Nat) (a:List (List Nat)) (c:Fin w.S.P):Prop where
  l:a.length=n
  r:∀ i,i < n→(a.getD i []).length=t+1∧Lt w.S.P (a.getD i [])
  cs:∀ i,i < n→Hn w i→∀ j,j < n→Hn w j→fF (P w.S.P (a.getD i [])) (o w.S.P (j+1))=fF (P w.S.P (a.getD j [])) (o w.S.P (i+1))
  sp:∀ y,∃ g:List (Fin w.S.P),g.length≤t+1∧(∀ i,i < n→Hn w i→fF (P w.S.P (a.getD i [])) y=fF g (o w.S.P (i+1)))∧(y=0→fF g 0=c)
theorem DL {l:List Nat} {k:Nat} (h:l.length≤k):l.getD k 0=0:=by
  rw [List.getD_eq_getElem?_getD,List.getElem?_eq_none h];rfl
theorem C6 {f:Nat→Bool}:∀ {l:List Nat},l.length=(l.filter f).length+(l.filter fun x=>!f x).length
  | []=>rfl
  | a :: t=>by
    have:=C6 (f:=f) (l:=t)
    cases h:f a <;> simp [h] <;> omega
section
variable {w:ac} {n t:Nat}
/-- the honest parties -/
def jI (w:ac) (k:Nat):List Nat:=(List.range k).filter fun i=>decide ((((i:Nat):Int)+1) ∉ w.ae)
theorem oD {k:Nat}:jI w (k+1)=jI w k++if (((k:Nat):Int)+1) ∉ w.ae then [k] else []:=by
  unfold jI
  rw [List.range_succ,List.filter_append]
  by_cases g:(((k:Nat):Int)+1) ∉ w.ae
  · rw [if_pos g,List.filter_cons,if_pos (by simpa using g),List.filter_nil]
  · rw [if_neg g,List.filter_cons,if_neg (by simpa using g),List.filter_nil]
theorem Dy {k:Nat}:(jI w k).length≤k:=Nat.le_trans (List.length_filter_le ..) (by simp)
theorem xf {i:Nat} (hi:i < (jI w n).length):(jI w n).getD i 0 < n∧(((((jI w n).getD i 0:Nat)):Int)+1) ∉ w.ae:=by
  obtain ⟨h1,h2⟩:=List.mem_filter.1 (getD_in (d:=0) hi)
  exact ⟨List.mem_range.1 h1,of_decide_eq_true h2⟩
theorem BZ (s:Sc w n t):n≤(jI w n).length+t:=by
  have h1:((List.range n).filter fun i=>!decide ((((i:Nat):Int)+1) ∉ w.ae)).length≤t:=by
    rw [← List.length_map (f:=fun i=>((i:Nat):Int)+1)]
    refine Nat.le_trans (uB ?_ fun x hx=>?_) s.cl
    · rw [List.Nodup,List.pairwise_map]
      exact List.Pairwise.imp (fun {a b} h=>by omega) (List.Pairwise.filter _ List.nodup_range)
    · obtain ⟨i,hi,rfl⟩:=List.mem_map.1 hx
      have:=(List.mem_filter.1 hi).2
      simpa using this
  have h2:=C6 (l:=List.range n) (f:=fun i=>decide ((((i:Nat):Int)+1) ∉ w.ae))
  rw [List.length_range] at h2
  show n≤((List.range n).filter fun i=>decide ((((i:Nat):Int)+1) ∉ w.ae)).length+t
  omega
end
section
variable {w:ac} [NeZero w.S.P] {n t:Nat}
theorem z5 {p:Nat} (hp:iq p) {a b:List Nat} (ha:Lt p a) (hb:Lt p b) {m:Nat} (h1:a.length=m) (h2:b.length=m) (hm:m≤1000):jA a b p=some ((List.range m).map fun j=>(a.getD j 0+b.getD j 0) % p):=by
  have hlt:=hp.lt
  unfold jA cj
  rw [h1,ng (by omega) (by omega) (by omega) (by omega),bS,Int.toNat_natCast,Nat.sub_zero]
  obtain ⟨r,e,r1,r2⟩:=jz (body:=fun k1 (st:(List Nat))=>bU a b p k1 st) (fun k r=>r.length=m∧∀ j,j < k→r.getD j 0=(a.getD j 0+b.getD j 0) % p) (rem:=m) (k:=0) (s:=List.replicate m 0)
    ⟨by simp,fun j hj=>by omega⟩ (fun k r _ hk ⟨r1,r2⟩=>by
      have:=ha.get hp.pos k
      have:=hb.get hp.pos k
      unfold bU ka
      rw [ix 0 (by omega),bS,ix 0 (by omega),bS,ym hp (by omega),bS,bS,ix 0 (by omega),bS,bS]
      refine ⟨_,rfl,by rw [List.length_set];exact r1,fun j hj=>?_⟩
      rw [dx (by omega)]
      by_cases g:k=j
      · rw [if_pos g,g]
      · rw [if_neg g];exact r2 j (by omega))
  rw [Nat.zero_add] at r2
  rw [e,bS,bS,Gn r1 nP fun i hi=>by rw [r2 i hi,uD hi]]
/-- the sum of two sharings -/
theorem FQ.add (hp:iq w.S.P) (hn:n≤13) (ht:t≤13) {a b:List (List Nat)} {c d:Fin w.S.P} (A:FQ w n t a c) (B:FQ w n t b d):∃ s,nN w.S.P a b=some s∧FQ w n t s (c+d):=by
  have hlt:=hp.lt
  have hw:=fun i (hi:i < n)=>z5 hp (A.r i hi).2 (B.r i hi).2 (A.r i hi).1 (B.r i hi).1 (by omega)
  unfold nN fP ci
  rw [A.l,ng (by omega) (by omega) (by omega) (by omega),bS,Int.toNat_natCast,Nat.sub_zero]
  obtain ⟨r,e,r1,r2⟩:=jz (body:=fun k1 (st:(List (List Nat)))=>bT a b w.S.P k1 st) (fun k r=>r.length=n∧∀ i,i < k→r.getD i []=(List.range (t+1)).map fun j=>((a.getD i []).getD j 0+(b.getD i []).getD j 0) % w.S.P) (rem:=n) (k:=0) (s:=List.replicate n [])
    ⟨by simp,fun j hj=>by omega⟩ (fun k r _ hk ⟨r1,r2⟩=>by
      unfold bT
      rw [ix [] (by rw [A.l];omega),bS,ix [] (by rw [B.l];omega),bS,hw k (by omega),bS,ix [] (by omega),bS,bS]
      refine ⟨_,rfl,by rw [List.length_set];exact r1,fun j hj=>?_⟩
      rw [dx (by omega)]
      by_cases g:k=j
      · rw [if_pos g,g]
      · rw [if_neg g];exact r2 j (by omega))
  rw [Nat.zero_add] at r2
  rw [e,bS,bS,bS]
  have hev:∀ i,i < n→∀ y,fF (P w.S.P (r.getD i [])) y=fF (P w.S.P (a.getD i [])) y+fF (P w.S.P (b.getD i [])) y:=fun i hi y=>by
    rw [r2 i hi,← na]
    refine tm (fun k=>?_) y
    rw [wA,CY,CY,CY]
    by_cases g:k < t+1
    · rw [uD g,rv,zk]
    · rw [DL (by rw [nP];omega),DL (by rw [(A.r i hi).1];omega),DL (by rw [(B.r i hi).1];omega),nG];grind
  refine ⟨r,rfl,r1,fun i hi=>?_,fun i hi hhi j hj hhj=>?_,fun y=>?_⟩
  · rw [r2 i hi]
    refine ⟨nP,fun j hj=>?_⟩
    rw [nP] at hj
    rw [uD hj]
    exact Nat.mod_lt _ hp.pos
  · rw [hev i hi,hev j hj,A.cs i hi hhi j hj hhj,B.cs i hi hhi j hj hhj]
  · obtain ⟨g,g1,g2,g3⟩:=A.sp y
    obtain ⟨h,h1,h2,h3⟩:=B.sp y
    refine ⟨lM g h,by rw [qm];omega,fun i hi hhi=>?_,fun hy=>?_⟩
    · rw [hev i hi,na,g2 i hi hhi,h2 i hi hhi]
    · rw [na,g3 hy,h3 hy]
theorem GJ {m i:Nat}:(List.replicate m 0).getD i 0=0:=by
  rw [List.getD_eq_getElem?_getD,List.getElem?_replicate];split <;> rfl
end
end Pu
