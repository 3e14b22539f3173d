/- Plain laws of chapter 19: two runs that look alike to the corrupt parties: messages. -/
import Derived.Test.YtahofpgjianhdaaGreatDoorPm2
set_option linter.unusedVariables false
namespace Pu
open Gw Gl Sp
/-- a corrupt party -/
def Cr (w:T_api_Scenario) (i:Nat):Prop:=(((i:Nat):Int)+1) ∈ w.Corrupt
theorem rgS_rel {S:Type} {b1 b2:Nat→S→Option S} (I:Nat→S→S→Prop):∀ {rem k:Nat} {s1 s2 r1 r2:S},rgS b1 rem k s1=some r1→rgS b2 rem k s2=some r2→I k s1 s2→(∀ j a b a' b',k≤j→j < k+rem→I j a b→b1 j a=some a'→b2 j b=some b'→I (j+1) a' b')→I (k+rem) r1 r2
  | 0,k,s1,s2,r1,r2,h1,h2,hI,_=>by
    rw [rgS] at h1 h2
    have:=Option.some.inj h1
    subst this
    have:=Option.some.inj h2
    subst this
    exact hI
  | rem+1,k,s1,s2,r1,r2,h1,h2,hI,hb=>by
    rw [rgS] at h1 h2
    cases e1:b1 k s1 with
    | none=>rw [e1] at h1;cases h1
    | some a =>
      cases e2:b2 k s2 with
      | none=>rw [e2] at h2;cases h2
      | some b =>
        rw [e1] at h1
        rw [e2] at h2
        have h3:=hb k s1 s2 a b (Nat.le_refl k) (by omega) hI e1 e2
        have:=rgS_rel I (rem:=rem) (k:=k+1) h1 h2 h3 (fun j a b a' b' hj1 hj2=>hb j a b a' b' (by omega) (by omega))
        rw [show k+(rem+1)=k+1+rem by omega]
        exact this
theorem bsS {α:Type} {x:Option α} {y:α} (h:(x >>= fun z=>some z)=some y):x=some y:=by
  cases x with
  | none=>cases h
  | some z=>exact h
theorem bsB {α β:Type} {x:Option α} {f:α→Option β} {y:β} (h:(x >>= f)=some y):∃ a,x=some a∧f a=some y:=by
  cases x with
  | none=>cases h
  | some a=>exact ⟨a,rfl,h⟩
theorem applyM_red {w:T_api_Scenario} {n t L:Nat} (s:Sc w n t) {out:List (List (List Nat))} {round:Int} (ho:Sq w.S.P n L out):adversary_ApplyToMessages w round out=rgS (fun k2 (st:(List (List (List Nat))))=>adversary_ApplyToMessages_L1 w round out k2 st) w.Deviations.length 0 out:=by
  have h13:=s.n13
  unfold adversary_ApplyToMessages
  rw [ho.len,mkO_some (by omega) (by omega) (by omega) (by omega),bS,Nat.sub_zero,Int.toNat_natCast,rgS_rows (fun i=>out.getD i []) (fun i l hi hl _=>by
    unfold adversary_ApplyToMessages_L0
    rw [ho.s1 hi,bS,clones_ok (by rw [ho.row i hi];omega),bS,ix [] (by omega),bS,bS]),bS,Nat.sub_zero]
  have hout:(List.range n).map (fun i=>out.getD i [])=out:=by
    refine List.ext_getElem? fun i=>?_
    by_cases g:i < n
    · rw [List.getElem?_map,List.getElem?_range g,ho.s1 g];rfl
    · rw [List.getElem?_eq_none (by simp;omega),List.getElem?_eq_none (by rw [ho.len];omega)]
  rw [hout]
  cases rgS (fun k2 (st:(List (List (List Nat))))=>adversary_ApplyToMessages_L1 w round out k2 st) w.Deviations.length 0 out <;> rfl
theorem row_ext {n:Nat} {a b:List (List Nat)} (ha:a.length=n) (hb:b.length=n) (h:∀ j,j < n→a.getD j []=b.getD j []):a=b:=by
  refine List.ext_getElem? fun j=>?_
  by_cases g:j < n
  · rw [ix [] (by omega),ix [] (by omega),h j g]
  · rw [List.getElem?_eq_none (by omega),List.getElem?_eq_none (by omega)]
/-- messages from or to corrupt parties are the same in both runs -/
theorem applyM_rel {w:T_api_Scenario} {n t L:Nat} (s:Sc w n t) {o1 o2 A1 A2:List (List (List Nat))} {round:Int} (h1:Sq w.S.P n L o1) (h2:Sq w.S.P n L o2) (hL:L≤100) (hq:∀ i,i < n→∀ j,j < n→Cr w i ∨ Cr w j→(o1.getD i []).getD j []=(o2.getD i []).getD j [])
    (e1:adversary_ApplyToMessages w round o1=some A1) (e2:adversary_ApplyToMessages w round o2=some A2):(∀ i,i < n→∀ j,j < n→Cr w i ∨ Cr w j→(A1.getD i []).getD j []=(A2.getD i []).getD j [])∧(∀ i,i < n→¬ Cr w i→A1.getD i []=o1.getD i []∧A2.getD i []=o2.getD i []):=by
  obtain ⟨B1,f1,_,g1⟩:=apply_ok (round:=round) s h1 hL
  obtain ⟨B2,f2,_,g2⟩:=apply_ok (round:=round) s h2 hL
  rw [e1] at f1
  rw [e2] at f2
  have:=Option.some.inj f1
  subst this
  have:=Option.some.inj f2
  subst this
  have hun:∀ i,i < n→¬ Cr w i→A1.getD i []=o1.getD i []∧A2.getD i []=o2.getD i []:=fun i hi hc=>⟨g1 i hi hc,g2 i hi hc⟩
  rw [applyM_red s h1] at e1
  rw [applyM_red s h2] at e2
  have key:=rgS_rel (fun _ a b=>a.length=n∧b.length=n∧(∀ i,i < n→(a.getD i []).length=n∧(b.getD i []).length=n)∧∀ i,i < n→Cr w i→a.getD i []=b.getD i []) e1 e2 ⟨h1.len,h2.len,fun i hi=>⟨h1.row i hi,h2.row i hi⟩,fun i hi hc=>row_ext (h1.row i hi) (h2.row i hi) fun j hj=>hq i hi j hj (.inl hc)⟩ (fun k a b a' b' _ hk ⟨k1,k2,k3,k4⟩ hb1 hb2=>by
    have hkd:k < w.Deviations.length:=by omega
    unfold adversary_ApplyToMessages_L1 at hb1 hb2
    rw [ix default hkd,bS] at hb1 hb2
    have hx:w.Deviations.getD k default ∈ w.Deviations:=by
      rw [List.getD_eq_getElem?_getD,List.getElem?_eq_getElem hkd];exact List.getElem_mem hkd
    generalize w.Deviations.getD k default=x at hx hb1 hb2
    obtain ⟨d1,d2,d3,d4,d5,d6,d7,d8⟩:=s.dv x hx
    unfold adversary_done at hb1 hb2
    by_cases g:x.Round=round∧x.From ∈ w.Corrupt
    · rw [eT g.1,cT,contains_ok,bS,bS,dT g.2,nT,cF] at hb1 hb2
      have h13:=s.n13
      have hf:x.From.toNat - 1 < n:=by omega
      have hfe:(x.From - 1).toNat=x.From.toNat - 1:=by omega
      have hcf:Cr w (x.From.toNat - 1):=by
        unfold Cr
        have:((x.From.toNat - 1:Nat):Int)+1=x.From:=by omega
        rw [this];exact g.2
      obtain ⟨said,es1,es2⟩:∃ said,(bif x.Kind == (3:Int) then
          subI x.Of (1:Int) >>= fun x6=>idx o1 x6 >>= fun x7=>subI x.From (1:Int) >>= fun x8=>idx x7 x8 >>= fun x9=>some x9
        else some ([]:List Nat))=some said∧(bif x.Kind == (3:Int) then
          subI x.Of (1:Int) >>= fun x6=>idx o2 x6 >>= fun x7=>subI x.From (1:Int) >>= fun x8=>idx x7 x8 >>= fun x9=>some x9
        else some ([]:List Nat))=some said:=by
        by_cases q3:x.Kind=3
        · have h7:=d7 q3
          have hoe:(x.Of - 1).toNat < n:=by omega
          refine ⟨(o1.getD (x.Of - 1).toNat []).getD (x.From - 1).toNat [],?_,?_⟩
          · rw [eT q3,cT,subI_some (by omega) (by omega),bS,idx_getD [] (by omega) (by rw [h1.len];omega),bS,subI_some (by omega) (by omega),bS,idx_getD [] (by omega) (by rw [h1.row _ hoe];omega),bS]
          · rw [eT q3,cT,subI_some (by omega) (by omega),bS,idx_getD [] (by omega) (by rw [h2.len];omega),bS,subI_some (by omega) (by omega),bS,idx_getD [] (by omega) (by rw [h2.row _ hoe];omega),bS,hfe,hq _ hoe _ hf (.inr hcf)]
        · exact ⟨[],by rw [eF q3,cF],by rw [eF q3,cF]⟩
      rw [es1,bS,subI_some (by omega) (by omega),bS,idx_getD [] (by omega) (by omega),bS,hfe,(k3 _ hf).1,ckN_some (by omega),bS,Nat.sub_zero] at hb1
      rw [es2,bS,subI_some (by omega) (by omega),bS,idx_getD [] (by omega) (by omega),bS,hfe,(k3 _ hf).2,ckN_some (by omega),bS,Nat.sub_zero] at hb2
      have:=rgS_rel (fun _ a b=>a.length=n∧b.length=n∧(∀ i,i < n→(a.getD i []).length=n∧(b.getD i []).length=n)∧∀ i,i < n→Cr w i→a.getD i []=b.getD i []) (bsS hb1) (bsS hb2) ⟨k1,k2,k3,k4⟩ (fun j a b a' b' _ hj ⟨k1,k2,k3,k4⟩ hb1 hb2=>by
        have hjn:j < n:=by omega
        unfold adversary_ApplyToMessages_L2 at hb1 hb2
        obtain ⟨c,ec,hb1⟩:=bsB hb1
        rw [ec,bS] at hb2
        cases c with
        | false =>
          rw [cF] at hb1 hb2
          have:=Option.some.inj hb1
          subst this
          have:=Option.some.inj hb2
          subst this
          exact ⟨k1,k2,k3,k4⟩
        | true =>
          rw [cT,idx_getD [] (by omega) (by omega),bS,hfe,ix [] (by rw [(k3 _ hf).1];exact hjn),bS] at hb1
          rw [cT,idx_getD [] (by omega) (by omega),bS,hfe,ix [] (by rw [(k3 _ hf).2];exact hjn),bS,← k4 _ hf hcf] at hb2
          obtain ⟨r,er,hb1⟩:=bsB hb1
          rw [er,bS,bS,bS] at hb2
          rw [bS,bS] at hb1
          have:=Option.some.inj hb1
          subst this
          have:=Option.some.inj hb2
          subst this
          refine ⟨by rw [List.length_set];exact k1,by rw [List.length_set];exact k2,fun i hi=>?_,fun i hi hc=>?_⟩
          · rw [getD_set (by omega),getD_set (by omega)]
            split
            · rw [List.length_set];exact ⟨(k3 _ hf).1,(k3 _ hf).1⟩
            · exact k3 i hi
          · rw [getD_set (by omega),getD_set (by omega)]
            split
            · rfl
            · exact k4 i hi hc)
      exact this
    · have:(bif x.Round == round then slices_Contains_Lint_int w.Corrupt x.From >>= fun r1=>some r1 else some false)=some false:=by
        by_cases g1:x.Round=round
        · rw [eT g1,cT,contains_ok,bS,dF (fun h=>g ⟨g1,h⟩)]
        · rw [eF g1,cF]
      rw [this,bS,nF,cT] at hb1 hb2
      have:=Option.some.inj hb1
      subst this
      have:=Option.some.inj hb2
      subst this
      exact ⟨k1,k2,k3,k4⟩)
  refine ⟨fun i hi j hj hc=>?_,hun⟩
  by_cases hi2:Cr w i
  · rw [key.2.2.2 i hi hi2]
  · obtain ⟨u1,u2⟩:=hun i hi hi2
    rw [u1,u2];exact hq i hi j hj hc
/-- what a corrupt party notes is the same -/
theorem evs_rel {round:Int} {A1 A2:List (List (List Nat))} {j n:Nat} (h:∀ i,i < n→(A1.getD i []).getD j []=(A2.getD i []).getD j []):evs round A1 j n=evs round A2 j n:=by
  induction n with
  | zero=>rfl
  | succ n ih=>rw [evs_succ,evs_succ,ih (fun i hi=>h i (by omega)),h n (by omega)]
end Pu
