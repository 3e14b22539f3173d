/- The arguments of a law, opened; a law's run out of its contract. -/
import Derived.Test.YtkmbblnepjofaaaGreatDoorTp1
set_option linter.unusedVariables false
namespace Gw
open Go Gv Go.ChangeShapes Go.WideShapes Go.Deep Go.RowKit
section
variable {H:Type} {enc:TypeId × Value→H} {P:Program} {W:World} {base:Nat} {t:TypeId} {v:Value} {d:DataW H} {ps:List MemPlace} {α:Type} {kd:Kd α} {ok:α→Prop}
theorem vR {fs:Array Field} (ht:P.underlying t=some (.struct fs)) (ho:mS P t kd ok) (hval:Value.okWide P W .any base t v) (h:DataW.Trod enc P W 0 (fun _=>true) true t v d ps) (hw:CZ P t d) :
    ∃ x g,v=.agg (kd.cells x g).toArray∧(∀ a ∈ kd.items x g,a.bs=[]∧a.q (qK W))∧ok x:=by
  simp only [Value.okWide,ht] at hval
  obtain ⟨cs,rfl,_,_⟩:=hval
  obtain ⟨n,hn⟩:=h
  obtain ⟨x,⟨g,e,hi⟩,ho⟩:=ho enc W n _ _ hn hw
  refine ⟨x,g,?_,fun a ha=>⟨kd.pers x g a ha,hi a ha⟩,ho⟩
  rw [← e];rfl
theorem xA {e:TypeId} {ok':List α→Prop} (ht:P.underlying t=some (.slice e)) (ho:mS P t (Kd.sl kd) ok') (hval:Value.okWide P W .any base t v) (h:DataW.Trod enc P W 0 (fun _=>true) true t v d ps) (hw:CZ P t d) :
    ∃ x,((nt kd v x).bs=[]∧(nt kd v x).q (qK W))∧ok' x:=by
  obtain ⟨a,l,c,rfl⟩:=okWide_slice ht hval
  obtain ⟨n,hn⟩:=h
  obtain ⟨x,⟨g,e,hi⟩,ho⟩:=ho enc W n _ _ hn hw
  have e2:[Value.slice a l c]=[g]:=e
  cases e2
  exact ⟨x,⟨rfl,hi _ (List.mem_singleton.2 rfl)⟩,ho⟩
end
theorem sA {s:St}:∀ {L:List aC},(∀ a ∈ L,a.bs=[]∧a.q s)→Holds s L
  | [],_=>{ q:=fun _ h=>(nomatch h),own:=fun _ h=>(nomatch h),nd:=List.nodup_nil }
  | a :: L,h=>(sA fun b hb=>h b (List.mem_cons_of_mem _ hb)).consPr (h a (by simp)).1 (h a (by simp)).2
theorem B1 {P:Program} {f:FuncId} {l:List Value} {Pre:List aC} {b7:Value→List aC→Prop} {W:World} (hct:Ct P f l Pre b7) (hpost:∀ v L,b7 v L→v=.bool true) (hpre:∀ a ∈ Pre,a.bs=[]∧a.q (qK W)) :
    Calls P f l.toArray W fun e W'=>e=.returned (.bool true)∧Below W.heap.size W W':=by
  have h:=hct [pr (fun s=>Le (qK W) s) (fun _ _ h g=>g.trans h)] (qK W) (Am W) (sA fun a ha=>by
    rcases List.mem_append.1 ha with ha | ha
    · exact hpre a ha
    · rw [List.mem_singleton] at ha;subst ha;exact ⟨rfl,Le.refl _⟩)
  refine h.mono fun e W' ⟨v,L,s',he,hw,_,hp,hh⟩=>?_
  subst hw
  rw [hpost v L hp] at he
  exact ⟨he,uU (hh.q _ (List.mem_append_right _ (List.mem_singleton.2 rfl)))⟩
theorem yo {H:Type} {enc:TypeId × Value→H} {P:Program} {W:World} {base:Nat} {sp:Nat→Bool} {hd:Bool} {t e:TypeId} {n m:Nat} {cs:List Value} {zs:List Int} {p:List MemPlace} (ht:P.underlying t=some (.array m e)) (he:P.underlying e=some (.int .i64)) (hc:P.cellsOf e=1) (hct:P.cellsOf t=m) (h:DataW.trod enc P W base sp hd n t cs=some (.agg (zs.map fun z=>.lit (.int .i64 z)),p)):cs=zs.map (fun z=>.int .i64 z):=by
  obtain ⟨xs,k,_,hx,hl,hlen,hall⟩:=DataW.trod_array ht h
  rw [hc] at hall
  have hx1:zs.map (fun z=>(DataW.lit (.int .i64 z):DataW H))=xs.map (·.1):=by
    have:=(Prod.mk.inj hx).1
    exact DataW.agg.inj this
  have hzl:zs.length=m:=by have:=congrArg List.length hx1;simp at this;omega
  apply List.ext_getElem?
  intro i
  by_cases hi:i < m
  · have h1:=hall i hi
    rw [List.getElem?_eq_getElem (by omega)] at h1
    obtain ⟨q,e1,e2,_⟩:=DataW.trod_int he h1
    have h3:=congrArg (fun l=>l[i]?) hx1
    simp only [List.getElem?_map,List.getElem?_eq_getElem (show i < zs.length by omega),List.getElem?_eq_getElem (show i < xs.length by omega),Option.map_some,e2] at h3
    have h4:zs[i]=q:=by
      have:=Option.some.inj h3
      injection this with this
      injection this with _ this
    rw [Nat.mul_one] at e1
    have h5:cs[i]?=some (.int .i64 q):=by
      have:=congrArg (fun l=>l[0]?) e1
      simpa using this
    rw [h5,List.getElem?_map,List.getElem?_eq_getElem (by omega),h4];rfl
  · rw [List.getElem?_eq_none (by omega),List.getElem?_eq_none (by simp;omega)]
end Gw
