/- Plain laws of chapter 19: rows that agree with the rows of T + 1 parties agree with each other. -/
import Derived.Test.YtahofpgjianhdaaGreatDoorPj7
set_option linter.unusedVariables false
namespace Pu
open Gw Gl Sp
/-- the product of y - X j for all j before k but i -/
def pd {R:Type} [Lean.Grind.CommRing R] (X:Nat→R) (i:Nat) (y:R):Nat→R
  | 0=>1
  | k+1=>if k=i then pd X i y k else pd X i y k*(y - X k)
theorem pd_zero {R:Type} [Lean.Grind.CommRing R] {X:Nat→R} {i j:Nat} (hij:j≠i):∀ {n:Nat},j < n→pd X i (X j) n=0
  | 0,h=>by omega
  | n+1,h=>by
    rw [pd]
    by_cases g:j=n
    · subst g;rw [if_neg hij];grind
    · have:=pd_zero (X:=X) hij (n:=n) (by omega)
      split
      · exact this
      · rw [this];grind
/-- the same as a list of coefficients -/
def pdl {R:Type} [Lean.Grind.CommRing R] (X:Nat→R) (i:Nat):Nat→List R
  | 0=>[1]
  | k+1=>if k=i then pdl X i k else pmul (pdl X i k) [-X k,1]
theorem pdl_evl {R:Type} [Lean.Grind.CommRing R] {X:Nat→R} {i:Nat} (y:R):∀ {n:Nat},evl (pdl X i n) y=pd X i y n
  | 0=>by simp only [pdl,evl,pd];grind
  | n+1=>by
    rw [pd,pdl]
    split
    · exact pdl_evl y
    · rw [evl_pmul,pdl_evl y];simp only [evl];grind
theorem pdl_len {R:Type} [Lean.Grind.CommRing R] {X:Nat→R} {i:Nat}:∀ {n:Nat},(pdl X i n).length+(if i < n then 1 else 0)≤n+1
  | 0=>by simp [pdl]
  | n+1=>by
    have ih:=pdl_len (X:=X) (i:=i) (n:=n)
    rw [pdl]
    split
    · rename_i g
      rw [if_neg (by omega)] at ih
      rw [if_pos (by omega)];omega
    · rename_i g
      have:=pmul_len1 (pdl X i n) [-X n,1] (by simp)
      simp only [List.length_cons,List.length_nil] at this
      split at ih
      · rw [if_pos (by omega)];omega
      · rw [if_neg (by omega)];omega
/-- a sum of multiples of lists -/
def lsum {R:Type} [Lean.Grind.CommRing R] (c:Nat→R) (B:Nat→List R):Nat→List R
  | 0=>[]
  | k+1=>padd (lsum c B k) (smul (c k) (B k))
theorem lsum_evl {R:Type} [Lean.Grind.CommRing R] {c:Nat→R} {B:Nat→List R} (y:R):∀ {n:Nat},evl (lsum c B n) y=sm n (fun k=>c k*evl (B k) y)
  | 0=>rfl
  | n+1=>by rw [lsum,evl_padd,evl_smul,lsum_evl y,sm]
theorem lsum_len {R:Type} [Lean.Grind.CommRing R] {c:Nat→R} {B:Nat→List R} {m:Nat}:∀ {n:Nat},(∀ k,k < n→(B k).length≤m)→(lsum c B n).length≤m
  | 0,_=>by simp [lsum]
  | n+1,h=>by
    rw [lsum,padd_len,smul_len]
    have:=lsum_len (c:=c) (B:=B) (n:=n) (fun k hk=>h k (by omega))
    have:=h n (by omega)
    omega
section
variable {p:Nat} [NeZero p]
theorem evl_P {f:List Nat} {n:Nat} (h:f.length≤n) (x:Fin p):evl (P p f) x=sm n (fun j=>o p (f.getD j 0)*x ^ j):=by
  rw [evl_sm (n:=n) x (by rw [P_len];exact h)]
  exact sm_congr fun j _=>by rw [P_cf]
theorem evl_zero (f:List Nat):evl (P p f) 0=o p (f.getD 0 0):=by
  cases f with
  | nil=>simp only [P,List.map_nil,evl];exact o_zero.symm
  | cons a l=>simp only [P,List.map_cons,evl];show o p a+_=o p a;grind
theorem pd_ne (hp:Sup p) {X:Nat→Fin p} {i:Nat} {y:Fin p}:∀ {n:Nat},(∀ j,j < n→j≠i→y - X j≠0)→pd X i y n≠0
  | 0,_=>hp.one
  | n+1,h=>by
    rw [pd]
    have ih:=pd_ne hp (X:=X) (i:=i) (y:=y) (n:=n) (fun j hj=>h j (by omega))
    split
    · exact ih
    · rename_i g
      intro e
      rcases hp.nz _ _ e with e | e
      · exact ih e
      · exact h n (by omega) g e
theorem finv (hp:Sup p) {a:Fin p} (h:a≠0):∃ b,b*a=1:=by
  have h1:a.val % p≠0:=fun e=>h (by rw [← o_val a,o_eq0];exact e)
  have:=hp.oinv h1
  rw [o_val] at this
  exact ⟨_,this⟩
/-- the weights of interpolation -/
theorem lag (hp:Sup p) {t:Nat} {X:Nat→Fin p} (hX:∀ i j,i < t→j < t→i≠j→X i≠X j) (y:Fin p):∃ w:Nat→Fin p,∀ f:List (Fin p),f.length≤t→evl f y=sm t (fun g=>w g*evl f (X g)):=by
  have hd:∀ g,g < t→pd X g (X g) t≠0:=fun g hg=>pd_ne hp fun j hj hjg e=>hX g j hg hj (fun e=>hjg e.symm) (by grind)
  have hi:∀ g,∃ b,g < t→b*pd X g (X g) t=1:=fun g=>by
    by_cases hg:g < t
    · obtain ⟨b,hb⟩:=finv hp (hd g hg)
      exact ⟨b,fun _=>hb⟩
    · exact ⟨0,fun h=>absurd h hg⟩
  obtain ⟨inv,hinv⟩:∃ inv:Nat→Fin p,∀ g,g < t→inv g*pd X g (X g) t=1:=⟨fun g=>Classical.choose (hi g),fun g hg=>Classical.choose_spec (hi g) hg⟩
  refine ⟨fun g=>inv g*pd X g y t,fun f hf=>?_⟩
  have hl:(lsum (fun g=>evl f (X g)*inv g) (fun g=>pdl X g t) t).length≤t:=lsum_len fun k hk=>by
    have:=pdl_len (X:=X) (i:=k) (n:=t)
    rw [if_pos hk] at this;omega
  have hnd:((List.range t).map X).Nodup:=by
    rw [List.Nodup,List.pairwise_iff_getElem]
    intro i j hi hj hij
    simp only [List.length_map,List.length_range] at hi hj
    simp only [List.getElem_map,List.getElem_range]
    exact hX i j hi hj (by omega)
  have hcf:=eq_of_evl hp.nz (f:=f) (g:=lsum (fun g=>evl f (X g)*inv g) (fun g=>pdl X g t) t) hnd (by simp;exact hf) (by simp;exact hl) (fun x hx=>by
    obtain ⟨i,hi,rfl⟩:=List.mem_map.1 hx
    have hi:i < t:=by simpa using hi
    have e1:=sm_upd (n:=t) hi (fun _=>(0:Fin p)) (fun k=>evl f (X k)*inv k*pd X k (X i) t) (evl f (X i)) (by
      have:=hinv i hi
      have e:evl f (X i)*inv i*pd X i (X i) t=evl f (X i)*(inv i*pd X i (X i) t):=by grind
      show evl f (X i)*inv i*pd X i (X i) t=evl f (X i)+0
      rw [e,this];grind) (fun j hj hji=>by
      show evl f (X j)*inv j*pd X j (X i) t=0
      rw [pd_zero (X:=X) (i:=j) (j:=i) (fun e=>hji e.symm) hi];grind)
    have e2:sm t (fun _=>(0:Fin p))=0:=sm_zero fun _ _=>rfl
    rw [lsum_evl]
    have e3:sm t (fun k=>evl f (X k)*inv k*evl (pdl X k t) (X i))=sm t (fun k=>evl f (X k)*inv k*pd X k (X i) t):=sm_congr fun k _=>by rw [pdl_evl]
    rw [e3,e1,e2];grind)
  rw [evl_congr hcf y,lsum_evl]
  exact sm_congr fun k _=>by rw [pdl_evl];grind
/-- what agrees with T + 1 rows is one symmetric polynomial -/
theorem joint (hp:Sup p) {t:Nat} {H:Nat→Prop} {f:Nat→List Nat} {X:Nat→Fin p} {G:Nat→Nat} (hG:∀ g,g < t+1→H (G g)) (hne:∀ g h,g < t+1→h < t+1→g≠h→X (G g)≠X (G h)) (hl:∀ i,H i→(f i).length≤t+1)
    (hc:∀ i,H i→∀ g,g < t+1→evl (P p (f i)) (X (G g))=evl (P p (f (G g))) (X i)) :
    (∀ i j,H i→H j→evl (P p (f i)) (X j)=evl (P p (f j)) (X i))∧∃ h:List Nat,Lt p h∧h.length≤t+1∧∀ i,H i→o p ((f i).getD 0 0)=evl (P p h) (X i):=by
  have hw:=fun y=>lag hp (t:=t+1) (X:=fun g=>X (G g)) hne y
  have hfl:∀ i,H i→(P p (f i)).length≤t+1:=fun i hi=>by rw [P_len];exact hl i hi
  refine ⟨fun i j hi hj=>?_,?_⟩
  · obtain ⟨a,ha⟩:=hw (X j)
    obtain ⟨b,hb⟩:=hw (X i)
    have e1:evl (P p (f i)) (X j)=sm (t+1) (fun g=>sm (t+1) (fun h=>a g*(b h*evl (P p (f (G g))) (X (G h))))):=by
      rw [ha _ (hfl i hi)]
      refine sm_congr fun g hg=>?_
      rw [hc i hi g hg,hb _ (hfl _ (hG g hg)),← sm_mul]
    have e2:evl (P p (f j)) (X i)=sm (t+1) (fun h=>sm (t+1) (fun g=>b h*(a g*evl (P p (f (G h))) (X (G g))))):=by
      rw [hb _ (hfl j hj)]
      refine sm_congr fun g hg=>?_
      rw [hc j hj g hg,ha _ (hfl _ (hG g hg)),← sm_mul]
    rw [e1,e2,sm_swap]
    refine sm_congr fun h hh=>sm_congr fun g hg=>?_
    rw [hc (G g) (hG g hg) h hh];grind
  · obtain ⟨a,ha⟩:=hw 0
    refine ⟨(List.range (t+1)).map fun j=>(sm (t+1) (fun g=>a g*o p ((f (G g)).getD j 0))).val,Lt_map fun j _=>Fin.isLt _,by simp,fun i hi=>?_⟩
    rw [evl_P (n:=t+1) (by simp),← evl_zero,ha _ (hfl i hi)]
    have e1:sm (t+1) (fun g=>a g*evl (P p (f i)) (X (G g)))=sm (t+1) (fun g=>sm (t+1) (fun j=>a g*(o p ((f (G g)).getD j 0)*X i ^ j))):=sm_congr fun g hg=>by
      rw [hc i hi g hg,evl_P (n:=t+1) (hl _ (hG g hg)),← sm_mul]
    rw [e1,sm_swap]
    refine sm_congr fun j hj=>?_
    rw [map_getD hj,o_val,Lean.Grind.CommRing.mul_comm,← sm_mul]
    exact sm_congr fun g hg=>by grind
end
/-- three properties of which each one has one -/
theorem cnt3 {f g h:Nat→Bool}:∀ {n:Nat},(∀ i,i < n→f i=true ∨ g i=true ∨ h i=true)→n≤cnt f n+cnt g n+cnt h n
  | 0,_=>by omega
  | n+1,hh=>by
    have ih:=cnt3 (f:=f) (g:=g) (h:=h) (n:=n) (fun i hi=>hh i (by omega))
    rw [cnt_succ,cnt_succ,cnt_succ]
    rcases hh n (by omega) with e | e | e
    · rw [e,if_pos rfl];omega
    · rw [e,if_pos rfl];omega
    · rw [e,if_pos rfl];omega
end Pu
