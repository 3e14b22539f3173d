/- Plain laws of chapter 19: sorting few words, distinct words. -/
import Derived.Test.YtpjenmchinpgaaaGreatDoorPk
set_option linter.unusedVariables false
namespace Pu
open Gw Gl Sp
end Pu

/- Plain laws of chapter 19: sums and products of polynomials. -/
set_option linter.unusedVariables false
namespace Pu
open Gw Gl Sp
section
variable {p:Nat} [NeZero p]
theorem L8 (hp:fX p) {f:List Nat} {i k:Nat} (hf:Lt p f) (hl:f.length≤900) (hi:i≤900) (hk:k < p) :
    ∃ r,iL ⟨p,f⟩ ((i:Nat):Int) k=some r∧Lt p r∧r.length=max f.length (i+1)∧∀ x,cc (P p r) x=cc (P p f) x+o p k*x ^ i:=by
  have hlt:=hp.lt
  unfold iL
  obtain ⟨l,e,hll,hg,hil⟩:=ny (step:=fun (st:(List Nat))=>oR ((i:Nat):Int) st) (fun l=>(l=f ∨ (l.length≤i+1∧f.length≤l.length))∧∀ j,l.getD j 0=f.getD j 0) (fun l=>l.length=max f.length (i+1)∧(∀ j,l.getD j 0=f.getD j 0)∧i < l.length) (fun l=>i+1 - l.length) (fun l ⟨h1,h2⟩=>by
    unfold oR
    have hll:l.length≤901:=by
      rcases h1 with h1 | h1
      · subst h1;omega
      · omega
    by_cases g:l.length≤i
    · rw [dT (by omega),cT,aM (by simp only [List.length_cons,List.length_nil];omega) (by simp only [List.length_cons,List.length_nil];omega),bS]
      refine ⟨_,rfl,⟨.inr ?_,fun j=>?_⟩,by simp only [List.length_append,List.length_cons,List.length_nil];omega⟩
      · simp only [List.length_append,List.length_cons,List.length_nil]
        rcases h1 with h1 | h1
        · subst h1;omega
        · omega
      · rw [← h2 j]
        by_cases gj:j < l.length
        · rw [cy gj]
        · by_cases ge:j=l.length
          · rw [c9 ge,mz (by omega)]
          · rw [mz (by simp;omega),mz (by omega)]
    · rw [dF (by omega),cF]
      refine ⟨_,rfl,?_,h2,by omega⟩
      rcases h1 with h1 | h1
      · subst h1;omega
      · omega) (s:=f) ⟨.inl rfl,fun _=>rfl⟩ (by omega)
  have hlp:∀ j,l.getD j 0 < p:=fun j=>by rw [hg j];exact Lt.get hp.pos hf j
  have hx:=hlp i
  simp only
  rw [e,bS,aX 0 (by omega) (by omega),bS,Int.toNat_natCast,vI hp (by omega),bS,bS]
  refine ⟨_,rfl,fun j hj=>?_,by rw [List.length_set];exact hll,fun x=>?_⟩
  · rw [aL hil]
    split
    · exact Nat.mod_lt _ hp.pos
    · exact hlp j
  · rw [o8 (n:=l.length) (by rw [List.length_set];exact Nat.le_refl _),o8 (f:=f) (n:=l.length) (by omega)]
    exact Cx hil _ _ _ (by rw [aL hil,if_pos rfl,mf,yK,hg i];grind) (fun j hj hne=>by rw [aL hil,if_neg (fun h=>hne h.symm),hg j])
/-- a loop that adds terms -/
theorem JH (hp:fX p) {body:Nat→List Nat→Option (List Nat)} {v:Nat→Nat} {n s:Nat} {l0:List Nat} (h0:Lt p l0) (hl0:l0.length≤800) (hs:s+n≤800) (hv:∀ k,k < n→v k < p)
    (hb:∀ k l,k < n→body k l=iL ⟨p,l⟩ ((s+k:Nat):Int) (v k)) :
    ∃ r,cV body n 0 l0=some r∧Lt p r∧r.length≤max l0.length (s+n)∧∀ x,cc (P p r) x=cc (P p l0) x+sm n (fun k=>o p (v k)*x ^ (s+k)):=by
  obtain ⟨r,e,h1,h2,h3⟩:=bo (body:=body) (fun k l=>Lt p l∧l.length≤max l0.length (s+k)∧∀ x,cc (P p l) x=cc (P p l0) x+sm k (fun k=>o p (v k)*x ^ (s+k))) (rem:=n) (k:=0) (s:=l0)
    ⟨h0,by omega,fun x=>by simp only [sm];grind⟩ (fun k l _ hk ⟨h1,h2,h3⟩=>by
      obtain ⟨r,er,r1,r2,r3⟩:=L8 hp (i:=s+k) (k:=v k) h1 (by omega) (by omega) (hv k (by omega))
      refine ⟨r,by rw [hb k l (by omega),er],r1,by omega,fun x=>?_⟩
      rw [r3 x,h3 x,sm];grind)
  rw [Nat.zero_add] at h2 h3
  exact ⟨r,e,h1,h2,h3⟩
theorem G5 (hp:fX p) {f:List Nat} (hf:Lt p f) (h:f.length≤1000):∃ t,iH f=some t∧t.length≤f.length∧Lt p t∧(∀ i,t.getD i 0=f.getD i 0)∧∀ x,cc (P p t) x=cc (P p f) x:=by
  obtain ⟨t,e,h1,h2,_⟩:=vv h
  exact ⟨t,e,h1,fun i _=>by rw [h2 i];exact Lt.get hp.pos hf i,h2,fun x=>uV h2 x⟩
theorem JE (hp:fX p) {a b:List Nat} (ha:Lt p a) (hb:Lt p b) (hal:a.length≤100) (hbl:b.length≤100):∃ r,tF p a b=some r∧Lt p r∧r.length≤a.length+b.length - 1∧∀ x,cc (P p r) x=cc (P p a) x*cc (P p b) x:=by
  unfold tF
  rw [Nat.sub_zero]
  obtain ⟨l,e,h1,h2,h3⟩:=bo (body:=fun k1 (st:(List Nat))=>tG p a b k1 st) (fun k l=>Lt p l∧l.length≤(if k=0 then 0 else k+b.length - 1)∧∀ x,cc (P p l) x=sm k (fun i=>o p (a.getD i 0)*x ^ i)*cc (P p b) x) (rem:=a.length) (k:=0) (s:=([]:List Nat))
    ⟨fun i hi=>by simp at hi,by simp,fun x=>by simp only [sm,P,List.map_nil,cc];grind⟩ (fun k l _ hk ⟨h1,h2,h3⟩=>by
      have hak:=Lt.get hp.pos ha k
      have hll:l.length≤250:=by split at h2 <;> omega
      obtain ⟨r,er,r1,r2,r3⟩:=JH hp (body:=fun k2 (st:(List Nat))=>tI p b k (a.getD k 0) k2 st) (v:=fun j=>a.getD k 0*b.getD j 0 % p) (n:=b.length) (s:=k) h1 (by omega) (by omega) (fun j hj=>Nat.mod_lt _ hp.pos) (fun j l' hj=>by
        have e1:((k:Nat):Int)+((j:Nat):Int)=((k+j:Nat):Int):=by omega
        unfold tI
        rw [ix 0 hj,bS,bk (by omega) (by omega),bS,e1,jX hp hak (Lt.get hp.pos hb j),bS]
        cases iL ⟨p,l'⟩ ((k+j:Nat):Int) (a.getD k 0*b.getD j 0 % p) <;> rfl)
      unfold tG
      rw [ix 0 (by omega),bS,Nat.sub_zero,er,bS]
      refine ⟨r,rfl,r1,?_,fun x=>?_⟩
      · rw [if_neg (by omega)]
        split at h2 <;> omega
      · rw [r3 x,h3 x,sm,o8 (f:=b) (n:=b.length) (Nat.le_refl _)]
        have:sm b.length (fun j=>o p (a.getD k 0*b.getD j 0 % p)*x ^ (k+j))=o p (a.getD k 0)*x ^ k*sm b.length (fun j=>o p (b.getD j 0)*x ^ j):=by
          rw [← oT]
          exact bY fun j _=>by rw [mf,pW];grind
        rw [this];grind)
  rw [Nat.zero_add] at h2 h3
  have hll:l.length≤250:=by split at h2 <;> omega
  obtain ⟨t,et,t1,t2,_,t4⟩:=G5 hp h1 (by omega)
  rw [e,bS,et,bS]
  refine ⟨t,rfl,t2,by split at h2 <;> omega,fun x=>?_⟩
  rw [t4 x,h3 x,o8 (f:=a) (n:=a.length) (Nat.le_refl _)]
end
end Pu

/- Plain laws of chapter 19: interpolation, reconstruction. -/
set_option linter.unusedVariables false
namespace Pu
open Gw Gl Sp
section
variable {p:Nat} [NeZero p]
end
end Pu
