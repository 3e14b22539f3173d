/- Plain laws of chapter 19: sharing commits every dealer. -/
import Derived.Test.YtahofpgjianhdaaGreatDoorPl4
set_option linter.unusedVariables false
namespace Pu
open Gw Gl Sp
section
variable {p:Nat} [NeZero p]
theorem refEval_pev (hp:Sup p) {f:List Nat} {x:Nat} (hf:Lt p f) (hl:f.length≤1000) (hx:x < p):privityref04_Eval p f x=some (pev p f x):=by
  obtain ⟨y,e,h1,h2⟩:=refEval_ok hp hf hx
  obtain ⟨_,h3,h4⟩:=pev_ok hp hf hx hl
  rw [e,o_inj h1 h3 (by rw [h2,h4])]
end
theorem joined_ok {w:T_api_Scenario} [NeZero w.S.P] {n t:Nat} (v:Va w n t) {a:List (List Nat)} (hl:a.length=n) (hr:∀ i,i < n→(a.getD i []).length≤1000∧Lt w.S.P (a.getD i [])) (hc:∀ i,i < n→Hn w i→∀ j,j < n→Hn w j→pev w.S.P (a.getD i []) (j+1)=pev w.S.P (a.getD j []) (i+1)):privityref19_Joined w a=some true:=by
  have hp:=v.sup
  have hlt:=hp.lt
  have h13:=v.n13
  have hg:=fun q h=>hon_get (w:=w) (n:=n) (q:=q) h
  have hhl:=hon_len v.toSc
  unfold privityref19_Joined
  rw [hons_ok v.toSc,bS,List.length_map,Nat.sub_zero,rgO_true (fun q _ hq=>by
    have hq:q < (hon w n).length:=by omega
    obtain ⟨g1,g2⟩:=hg q hq
    unfold privityref19_Joined_L0
    rw [ckN_some (by omega),bS,Nat.sub_zero,rgO_true (fun r _ hr2=>by
      have hr3:r < (hon w n).length:=by omega
      obtain ⟨f1,f2⟩:=hg r hr3
      have e0:(((hon w n).getD q 0+1:Nat):Int) - 1=(((hon w n).getD q 0:Nat):Int):=by omega
      have e1:(((hon w n).getD r 0+1:Nat):Int) - 1=(((hon w n).getD r 0:Nat):Int):=by omega
      have u0:toU (((hon w n).getD q 0+1:Nat):Int)=(hon w n).getD q 0+1:=by unfold toU;omega
      have u1:toU (((hon w n).getD r 0+1:Nat):Int)=(hon w n).getD r 0+1:=by unfold toU;omega
      unfold privityref19_Joined_L1
      rw [mapI 0 hq,bS,subI_some (by omega) (by omega),bS,e0,idx_getD [] (by omega) (by omega),bS,mapI 0 hr3,bS,u1,bS,Int.toNat_natCast,refEval_pev hp (hr _ g1).2 (hr _ g1).1 (by omega),bS,subI_some (by omega) (by omega),bS,e1,idx_getD [] (by omega) (by omega),bS,u0,bS,Int.toNat_natCast,refEval_pev hp (hr _ f1).2 (hr _ f1).1 (by omega),bS,hc _ g1 (.inl g2) _ f1 (.inl f2),qF rfl,cF]),bS,oG]),bS,oG]
/-- the honest parties' shares reconstruct -/
theorem recon_hon {w:T_api_Scenario} [NeZero w.S.P] {n t:Nat} (v:Va w n t) (hn:n≤7) {r:Nat→List Nat} {f:List Nat} (hr:∀ i,i < n→Lt w.S.P (r i)) (hf:Lt w.S.P f) (hfl:f.length≤t+1) (hY:∀ i,i < n→Hn w i→o w.S.P ((r i).getD 0 0)=evl (P w.S.P f) (o w.S.P (i+1))) :
    shamir_Reconstruct w.S.P ((t:Nat):Int) ((List.range (hon w n).length).map fun q=>(⟨(hon w n).getD q 0+1,(r ((hon w n).getD q 0)).getD 0 0⟩:T_api_Point))=some (f.getD 0 0,0):=by
  have hp:=v.sup
  have hlt:=hp.lt
  have ht3:=v.t3
  obtain ⟨hl1,hl2⟩:=hon_len v.toSc
  have hg:=fun q h=>hon_get (w:=w) (n:=n) (q:=q) h
  have hlt2:=fun a b hab h=>hon_lt (w:=w) (n:=n) (a:=a) (b:=b) hab h
  generalize hon w n=H at *
  have hLl:((List.range H.length).map fun q=>(⟨H.getD q 0+1,(r (H.getD q 0)).getD 0 0⟩:T_api_Point)).length=H.length:=by simp
  refine recon_ok hp (X:=fun i=>H.getD i 0+1) (Y:=fun i=>(r (H.getD i 0)).getD 0 0) ⟨fun i hi=>by rw [hLl] at hi;rw [List.getElem?_map,List.getElem?_range hi];rfl,fun i hi=>?_,fun i j hi hj hij e=>?_⟩ (by omega) (by omega) hf hfl (fun i hi=>?_)
  · rw [hLl] at hi
    have:=(hg i hi).1
    exact ⟨Nat.succ_pos _,by omega,Lt.get hp.pos (hr _ this) 0⟩
  · rw [hLl] at hi hj
    rcases Nat.lt_or_gt_of_ne hij with g | g
    · have:=hlt2 i j (by omega) (by omega);omega
    · have:=hlt2 j i (by omega) (by omega);omega
  · rw [hLl] at hi
    exact hY _ (hg i hi).1 (.inl (hg i hi).2)
end Pu
