/- Plain laws of chapter 19: shares of honest parties reconstruct an honest dealer's secret. -/
import Derived.Test.YtahofpgjianhdaaGreatDoorPl3
set_option linter.unusedVariables false
namespace Pu
open Gw Gl Sp
/-- the honest parties -/
def hon (w:T_api_Scenario) (n:Nat):List Nat:=(List.range n).filter fun i=>decide (((i+1:Nat):Int) ∉ w.Corrupt)
theorem hon_get {w:T_api_Scenario} {n q:Nat} (h:q < (hon w n).length):(hon w n).getD q 0 < n∧(((((hon w n).getD q 0:Nat):Int)+1) ∉ w.Corrupt):=by
  have h1:=getD_in (d:=0) h
  obtain ⟨h2,h3⟩:=List.mem_filter.1 h1
  exact ⟨by simpa using h2,of_decide_eq_true h3⟩
theorem hon_lt {w:T_api_Scenario} {n a b:Nat} (hab:a < b) (h:b < (hon w n).length):(hon w n).getD a 0 < (hon w n).getD b 0:=by
  have hp:(hon w n).Pairwise (· < ·):=List.Pairwise.sublist List.filter_sublist List.pairwise_lt_range
  rw [List.getD_eq_getElem?_getD,List.getD_eq_getElem?_getD,List.getElem?_eq_getElem h,List.getElem?_eq_getElem (show a < (hon w n).length by omega)]
  exact List.pairwise_iff_getElem.1 hp a b (by omega) h hab
theorem hon_len {w:T_api_Scenario} {n t:Nat} (s:Sc w n t):n≤(hon w n).length+t∧(hon w n).length≤n:=by
  have h1:∀ l:List Nat,(l.filter fun i=>decide (((i+1:Nat):Int) ∉ w.Corrupt)).length+(l.filter fun i=>decide (((i+1:Nat):Int) ∈ w.Corrupt)).length=l.length:=fun l=>by
    induction l with
    | nil=>rfl
    | cons x l ih =>
      by_cases g:((x+1:Nat):Int) ∈ w.Corrupt
      · simp only [List.filter_cons,g,not_true_eq_false,decide_false,decide_true,if_true,List.length_cons]
        simp only [Bool.false_eq_true,if_false]
        omega
      · simp only [List.filter_cons,g,not_false_eq_true,decide_false,decide_true,if_true,List.length_cons]
        simp only [Bool.false_eq_true,if_false]
        omega
  have h2:=h1 (List.range n)
  rw [List.length_range] at h2
  have h3:=sub_len (l1:=((List.range n).filter fun i=>decide (((i+1:Nat):Int) ∈ w.Corrupt)).map fun i=>((i:Nat):Int)+1) (l2:=w.Corrupt) (by
    rw [List.Nodup,List.pairwise_map]
    exact List.Pairwise.imp (fun {a b} h=>by omega) (List.Pairwise.sublist List.filter_sublist List.nodup_range)) (fun x hx=>by
    obtain ⟨i,hi,rfl⟩:=List.mem_map.1 hx
    exact of_decide_eq_true (List.mem_filter.1 hi).2)
  rw [List.length_map] at h3
  have:=s.cl
  unfold hon
  omega
theorem hons_ok {w:T_api_Scenario} {n t:Nat} (s:Sc w n t):privityref12_HonestParties w.S w.Corrupt=some ((hon w n).map fun i=>((i+1:Nat):Int)):=by
  have h13:=s.n13
  unfold privityref12_HonestParties
  have hm:max 1 (w.S.N+1).toNat=n+1:=by rw [s.N];omega
  rw [hm,ckN_some (by omega),bS,Nat.add_sub_cancel]
  obtain ⟨h,e,j,hj,h2⟩:=rgS_inv (body:=fun k1 (st:(List Int))=>privityref12_HonestParties_L0 w.Corrupt k1 st) (rem:=n) (k:=1) (s:=([]:List Int))
    (fun k h=>∃ j,k=j+1∧h=(hon w j).map fun i=>((i+1:Nat):Int)) ⟨0,rfl,rfl⟩ (fun k h h1 hk ⟨j,hj,h2⟩=>by
      subst hj
      have hl:h.length≤j:=by
        rw [h2,List.length_map]
        have:=List.length_filter_le (fun i=>decide (((i+1:Nat):Int) ∉ w.Corrupt)) (List.range j)
        rw [List.length_range] at this;exact this
      unfold privityref12_HonestParties_L0
      rw [in19_ok,bS]
      by_cases g:((j+1:Nat):Int) ∈ w.Corrupt
      · rw [dT g,nT,cF]
        refine ⟨_,rfl,j+1,rfl,?_⟩
        rw [h2]
        unfold hon
        have e2:List.filter (fun i=>decide (((i+1:Nat):Int) ∉ w.Corrupt)) [j]=[]:=by rw [List.filter_cons,if_neg (fun h=>(of_decide_eq_true h) g),List.filter_nil]
        rw [List.range_succ,List.filter_append,e2,List.append_nil]
      · rw [dF g,nF,cT,appO_some (by simp only [List.length_cons,List.length_nil];omega) (by simp only [List.length_cons,List.length_nil];omega),bS]
        refine ⟨_,rfl,j+1,rfl,?_⟩
        rw [h2]
        unfold hon
        have e2:List.filter (fun i=>decide (((i+1:Nat):Int) ∉ w.Corrupt)) [j]=[j]:=by rw [List.filter_cons,if_pos (decide_eq_true g),List.filter_nil]
        rw [List.range_succ,List.filter_append,e2,List.map_append]
        rfl)
  have:j=n:=by omega
  subst this
  rw [e,bS,h2]
theorem mapI {α β:Type} {l:List α} {f:α→β} {q:Nat} (d:α) (h:q < l.length):(l.map f)[q]?=some (f (l.getD q d)):=by
  rw [List.getElem?_map,ix d h];rfl
theorem sharing19_ok {w:T_api_Scenario} {q:List (List (List Nat))} {n t d k:Nat} {res:T_api_VSSResult} (hn:n≤100) (r:Res w q n t res) (hd:d < n) (hk:k < (q.getD d []).length) (hm:(q.getD d []).length≤2) :
    vss_SharingOf res ((d+1:Nat):Int) ((k:Nat):Int)=some ((List.range n).map fun i=>((res.Rows.getD i []).getD d []).getD k []):=by
  have e0:((d+1:Nat):Int) - 1=((d:Nat):Int):=by omega
  unfold vss_SharingOf
  rw [Nat.sub_zero,r.rl,rgS_tab' (fun i=>((res.Rows.getD i []).getD d []).getD k []) (fun i l hi hl=>by
    unfold vss_SharingOf_L0
    rw [ix [] (by rw [r.rl];exact hi),bS,subI_some (by omega) (by omega),bS,e0,idx_getD [] (by omega) (by rw [r.row i hi];omega),bS,Int.toNat_natCast,idx_getD [] (by omega) (by rw [r.many i hi d hd];omega),bS,Int.toNat_natCast,appO_some (by simp only [List.length_cons,List.length_nil];omega) (by simp only [List.length_cons,List.length_nil];omega),bS]),bS]
section
variable {p:Nat} [NeZero p]
end
end Pu
