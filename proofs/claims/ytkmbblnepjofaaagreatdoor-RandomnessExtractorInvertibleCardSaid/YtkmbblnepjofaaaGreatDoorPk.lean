/- Plain laws of chapter 19: the public rows, objections. -/
import Derived.Test.YtkmbblnepjofaaaGreatDoorPj
set_option linter.unusedVariables false
namespace Pu
open Gw Gl Sp
section
variable {p:Nat} [NeZero p] {n t:Nat}
end
end Pu

/- Plain laws of chapter 19: the second half. -/
set_option linter.unusedVariables false
namespace Pu
open Gw Gl Sp
end Pu

/- Plain laws of chapter 19: rows that agree with the rows of T + 1 parties agree with each other. -/
set_option linter.unusedVariables false
namespace Pu
open Gw Gl Sp
/-- the product of y - X j for all j before k but i -/
def pd {R:Type} [Lean.Grind.CommRing R] (X:Nat→R) (i:Nat) (y:R):Nat→R
  | 0=>1
  | k+1=>if k=i then pd X i y k else pd X i y k*(y - X k)
theorem sc {R:Type} [Lean.Grind.CommRing R] {X:Nat→R} {i j:Nat} (hij:j≠i):∀ {n:Nat},j < n→pd X i (X j) n=0
  | 0,h=>by omega
  | n+1,h=>by
    rw [pd]
    by_cases g:j=n
    · subst g;rw [if_neg hij];grind
    · have:=sc (X:=X) hij (n:=n) (by omega)
      split
      · exact this
      · rw [this];grind
/-- the same as a list of coefficients -/
def uM {R:Type} [Lean.Grind.CommRing R] (X:Nat→R) (i:Nat):Nat→List R
  | 0=>[1]
  | k+1=>if k=i then uM X i k else vv (uM X i k) [-X k,1]
theorem mc {R:Type} [Lean.Grind.CommRing R] {X:Nat→R} {i:Nat} (y:R):∀ {n:Nat},fF (uM X i n) y=pd X i y n
  | 0=>by simp only [uM,fF,pd];grind
  | n+1=>by
    rw [pd,uM]
    split
    · exact mc y
    · rw [yz,mc y];simp only [fF];grind
theorem se {R:Type} [Lean.Grind.CommRing R] {X:Nat→R} {i:Nat}:∀ {n:Nat},(uM X i n).length+(if i < n then 1 else 0)≤n+1
  | 0=>by simp [uM]
  | n+1=>by
    have ih:=se (X:=X) (i:=i) (n:=n)
    rw [uM]
    split
    · rename_i g
      rw [if_neg (by omega)] at ih
      rw [if_pos (by omega)];omega
    · rename_i g
      have:=xZ (uM X i n) [-X n,1] (by simp)
      simp only [List.length_cons,List.length_nil] at this
      split at ih
      · rw [if_pos (by omega)];omega
      · rw [if_neg (by omega)];omega
/-- a sum of multiples of lists -/
def uq {R:Type} [Lean.Grind.CommRing R] (c:Nat→R) (B:Nat→List R):Nat→List R
  | 0=>[]
  | k+1=>lM (uq c B k) (uz (c k) (B k))
theorem qk {R:Type} [Lean.Grind.CommRing R] {c:Nat→R} {B:Nat→List R} (y:R):∀ {n:Nat},fF (uq c B n) y=sm n (fun k=>c k*fF (B k) y)
  | 0=>rfl
  | n+1=>by rw [uq,na,sx,qk y,sm]
theorem sE {R:Type} [Lean.Grind.CommRing R] {c:Nat→R} {B:Nat→List R} {m:Nat}:∀ {n:Nat},(∀ k,k < n→(B k).length≤m)→(uq c B n).length≤m
  | 0,_=>by simp [uq]
  | n+1,h=>by
    rw [uq,qm,sR]
    have:=sE (c:=c) (B:=B) (n:=n) (fun k hk=>h k (by omega))
    have:=h n (by omega)
    omega
section
variable {p:Nat} [NeZero p]
theorem vr (hp:iq p) {X:Nat→Fin p} {i:Nat} {y:Fin p}:∀ {n:Nat},(∀ j,j < n→j≠i→y - X j≠0)→pd X i y n≠0
  | 0,_=>hp.one
  | n+1,h=>by
    rw [pd]
    have ih:=vr hp (X:=X) (i:=i) (y:=y) (n:=n) (fun j hj=>h j (by omega))
    split
    · exact ih
    · rename_i g
      intro e
      rcases hp.nz _ _ e with e | e
      · exact ih e
      · exact h n (by omega) g e
theorem EN (hp:iq p) {a:Fin p} (h:a≠0):∃ b,b*a=1:=by
  have h1:a.val % p≠0:=fun e=>h (by rw [← tx a,xk];exact e)
  have:=hp.oinv h1
  rw [tx] at this
  exact ⟨_,this⟩
/-- the weights of interpolation -/
theorem G4 (hp:iq p) {t:Nat} {X:Nat→Fin p} (hX:∀ i j,i < t→j < t→i≠j→X i≠X j) (y:Fin p):∃ w:Nat→Fin p,∀ f:List (Fin p),f.length≤t→fF f y=sm t (fun g=>w g*fF f (X g)):=by
  have hd:∀ g,g < t→pd X g (X g) t≠0:=fun g hg=>vr hp fun j hj hjg e=>hX g j hg hj (fun e=>hjg e.symm) (by grind)
  have hi:∀ g,∃ b,g < t→b*pd X g (X g) t=1:=fun g=>by
    by_cases hg:g < t
    · obtain ⟨b,hb⟩:=EN hp (hd g hg)
      exact ⟨b,fun _=>hb⟩
    · exact ⟨0,fun h=>absurd h hg⟩
  obtain ⟨inv,hinv⟩:∃ inv:Nat→Fin p,∀ g,g < t→inv g*pd X g (X g) t=1:=⟨fun g=>Classical.choose (hi g),fun g hg=>Classical.choose_spec (hi g) hg⟩
  refine ⟨fun g=>inv g*pd X g y t,fun f hf=>?_⟩
  have hl:(uq (fun g=>fF f (X g)*inv g) (fun g=>uM X g t) t).length≤t:=sE fun k hk=>by
    have:=se (X:=X) (i:=k) (n:=t)
    rw [if_pos hk] at this;omega
  have hnd:((List.range t).map X).Nodup:=by
    rw [List.Nodup,List.pairwise_iff_getElem]
    intro i j hi hj hij
    simp only [List.length_map,List.length_range] at hi hj
    simp only [List.getElem_map,List.getElem_range]
    exact hX i j hi hj (by omega)
  have hcf:=xG hp.nz (f:=f) (g:=uq (fun g=>fF f (X g)*inv g) (fun g=>uM X g t) t) hnd (by simp;exact hf) (by simp;exact hl) (fun x hx=>by
    obtain ⟨i,hi,rfl⟩:=List.mem_map.1 hx
    have hi:i < t:=by simpa using hi
    have e1:=sQ (n:=t) hi (fun _=>(0:Fin p)) (fun k=>fF f (X k)*inv k*pd X k (X i) t) (fF f (X i)) (by
      have:=hinv i hi
      have e:fF f (X i)*inv i*pd X i (X i) t=fF f (X i)*(inv i*pd X i (X i) t):=by grind
      show fF f (X i)*inv i*pd X i (X i) t=fF f (X i)+0
      rw [e,this];grind) (fun j hj hji=>by
      show fF f (X j)*inv j*pd X j (X i) t=0
      rw [sc (X:=X) (i:=j) (j:=i) (fun e=>hji e.symm) hi];grind)
    have e2:sm t (fun _=>(0:Fin p))=0:=md fun _ _=>rfl
    rw [qk]
    have e3:sm t (fun k=>fF f (X k)*inv k*fF (uM X k t) (X i))=sm t (fun k=>fF f (X k)*inv k*pd X k (X i) t):=fB fun k _=>by rw [mc]
    rw [e3,e1,e2];grind)
  rw [tm hcf y,qk]
  exact fB fun k _=>by rw [mc];grind
end
end Pu

/- Plain laws of chapter 19: what sharing gives. -/
set_option linter.unusedVariables false
namespace Pu
open Gw Gl Sp
end Pu
