/- Plain laws of chapter 19: the values of rows of a symmetric matrix. -/
import Derived.Test.YtahofpgjianhdaaGreatDoorPi
set_option linter.unusedVariables false
namespace Pu
open Gw Gl Sp
theorem sm_swap {R:Type} [Lean.Grind.CommRing R] {m n:Nat} (f:Nat→Nat→R):sm m (fun j=>sm n (fun k=>f j k))=sm n (fun k=>sm m (fun j=>f j k)):=by
  induction m with
  | zero=>simp only [sm];rw [sm_zero (fun _ _=>rfl)]
  | succ m ih=>simp only [sm];rw [ih,sm_add]
section
variable {p:Nat} [NeZero p]
theorem pev_Rw (hp:Sup p) {m x y:Nat} {M:List (List Nat)} (hM:Mat p m m M) (hm:m≤10) (hx:x < p) (hy:y < p):o p (pev p (Rw p M x) y)=sm m (fun j=>sm m (fun k=>o p ((M.getD k []).getD j 0)*(o p x ^ k*o p y ^ j))):=by
  obtain ⟨_,_,hl,ht,hv⟩:=Rw_ok hp hM hm hx
  rw [(pev_ok hp ht hy (by omega)).2.2,evl_sm (n:=m) _ (by rw [P_len,hl];exact Nat.le_refl _)]
  refine sm_congr fun j hj=>?_
  rw [P_cf,hv j hj,Lean.Grind.CommRing.mul_comm,← sm_mul]
  exact sm_congr fun k _=>by grind
/-- the value of the row at x at y is that of the row at y at x -/
theorem pev_sym (hp:Sup p) {m x y:Nat} {M:List (List Nat)} (hM:Mat p m m M) (hs:∀ i,i < m→∀ j,j < m→(M.getD i []).getD j 0=(M.getD j []).getD i 0) (hm:m≤10) (hx:x < p) (hy:y < p):pev p (Rw p M x) y=pev p (Rw p M y) x:=by
  obtain ⟨_,_,hl,ht,_⟩:=Rw_ok hp hM hm hx
  obtain ⟨_,_,hl',ht',_⟩:=Rw_ok hp hM hm hy
  refine o_inj (p:=p) (pev_ok hp ht hy (by omega)).2.1 (pev_ok hp ht' hx (by omega)).2.1 ?_
  rw [pev_Rw hp hM hm hx hy,pev_Rw hp hM hm hy hx,sm_swap]
  refine sm_congr fun k hk=>sm_congr fun j hj=>?_
  rw [hs k hk j hj];grind
end
end Pu
