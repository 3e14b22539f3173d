/- Plain laws of chapter 19: sharing commits every dealer. -/
import Derived.Test.YtahofpgjianhdaaGreatDoorPl
set_option linter.unusedVariables false
namespace Pu
open Gw Gl Sp
section
variable {p:Nat} [NeZero p]
end
/-- the honest parties' shares reconstruct -/
theorem recon_hon {w:T_api_Scenario} [NeZero w.S.P] {n t:Nat} (v:Va w n t) (hn:n≤7) {r:Nat→List Nat} {f:List Nat} (hr:∀ i,i < n→Lt w.S.P (r i)) (hf:Lt w.S.P f) (hfl:f.length≤t+1) (hY:∀ i,i < n→Hn w i→o w.S.P ((r i).getD 0 0)=evl (P w.S.P f) (o w.S.P (i+1))) :
    shamir_Reconstruct w.S.P ((t:Nat):Int) ((List.range (hon w n).length).map fun q=>(⟨(hon w n).getD q 0+1,(r ((hon w n).getD q 0)).getD 0 0⟩:T_api_Point))=some (f.getD 0 0,0):=by
  have hp:=v.sup
  have hlt:=hp.lt
  have ht3:=v.t3
  obtain ⟨hl1,hl2⟩:=hon_len v.toSc
  have hg:=fun q h=>hon_get (w:=w) (n:=n) (q:=q) h
  have hlt2:=fun a b hab h=>hon_lt (w:=w) (n:=n) (a:=a) (b:=b) hab h
  generalize hon w n=H at *
  have hLl:((List.range H.length).map fun q=>(⟨H.getD q 0+1,(r (H.getD q 0)).getD 0 0⟩:T_api_Point)).length=H.length:=by simp
  refine recon_ok hp (X:=fun i=>H.getD i 0+1) (Y:=fun i=>(r (H.getD i 0)).getD 0 0) ⟨fun i hi=>by rw [hLl] at hi;rw [List.getElem?_map,List.getElem?_range hi];rfl,fun i hi=>?_,fun i j hi hj hij e=>?_⟩ (by omega) (by omega) hf hfl (fun i hi=>?_)
  · rw [hLl] at hi
    have:=(hg i hi).1
    exact ⟨Nat.succ_pos _,by omega,Lt.get hp.pos (hr _ this) 0⟩
  · rw [hLl] at hi hj
    rcases Nat.lt_or_gt_of_ne hij with g | g
    · have:=hlt2 i j (by omega) (by omega);omega
    · have:=hlt2 j i (by omega) (by omega);omega
  · rw [hLl] at hi
    exact hY _ (hg i hi).1 (.inl (hg i hi).2)
end Pu
