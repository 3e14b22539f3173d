/- Plain laws of chapter 19: sums of sharings are sharings. -/
import Derived.Test.YtahofpgjianhdaaGreatDoorPm2
set_option linter.unusedVariables false
namespace Pu
open Gw Gl Sp
section
variable {p:Nat} [NeZero p]
end
/-- the points of the honest parties -/
theorem pts19_ok {w:T_api_Scenario} {n:Nat} {a:List (List Nat)} (ha:a.length=n) (har:∀ i,i < n→0 < (a.getD i []).length) (hn:n≤13) :
    rgS (fun k2 (st:(List T_api_Point))=>privitylaw19_VSSHonestSharesReconstruct_L2 ((hon w n).map fun i=>((i+1:Nat):Int)) a k2 st) (hon w n).length 0 ([]:List T_api_Point)=some ((List.range (hon w n).length).map fun q=>(⟨(hon w n).getD q 0+1,(a.getD ((hon w n).getD q 0) []).getD 0 0⟩:T_api_Point)):=rgS_tab' _ (fun q l hq hl=>by
  obtain ⟨hi,_⟩:=hon_get hq
  have hql:q≤13:=by
    have:=List.length_filter_le (fun i=>decide (((i+1:Nat):Int) ∉ w.Corrupt)) (List.range n)
    rw [List.length_range] at this
    have hq:q < ((List.range n).filter fun i=>decide (((i+1:Nat):Int) ∉ w.Corrupt)).length:=hq
    omega
  have e3:(((hon w n).getD q 0+1:Nat):Int) - 1=(((hon w n).getD q 0:Nat):Int):=by omega
  have hu:toU (((hon w n).getD q 0+1:Nat):Int)=(hon w n).getD q 0+1:=by unfold toU;omega
  unfold privitylaw19_VSSHonestSharesReconstruct_L2
  rw [mapI 0 hq,bS,hu,bS,subI_some (by omega) (by omega),bS,e3,idx_getD [] (by omega) (by omega),bS,Int.toNat_natCast,ix 0 (har _ hi),bS,appO_some (by simp only [List.length_cons,List.length_nil];omega) (by simp only [List.length_cons,List.length_nil];omega),bS])
end Pu
