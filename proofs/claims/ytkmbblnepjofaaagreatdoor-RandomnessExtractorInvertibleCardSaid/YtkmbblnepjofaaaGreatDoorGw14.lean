/- Own words: boxes that a slice of pointers holds (rows of a tree that are boxes). -/
import Derived.Test.YtkmbblnepjofaaaGreatDoorGw13
set_option linter.unusedVariables false
namespace Gw
open Go Gv
/-- A box whose content is a datum. -/
def yp {α:Type} (kd:Kd α) (e:TypeId) (p:Value) (x:α):aC :=
  ⟨nQ p,fun s=>∃ b g,p=.pointer (some ⟨b,0,none⟩)∧s.w.heap[b]?=some (.cells (kd.cells x g).toArray e (0,0))∧∀ a ∈ kd.items x g,a.q s,
   fun a b h hb ⟨k,g,e1,e2,e3⟩=>⟨k,g,e1,(hb k (by subst e1;simp [nQ])).trans e2,fun y hy=>y.st a b h (fun k hk=>by rw [kd.pers x g y hy] at hk;cases hk) (e3 y hy)⟩⟩
abbrev tW {α:Type} (kd:Kd α) (e:TypeId):RK α:=⟨id,fun p x=>yp kd e p x⟩
section
variable {P:Program} {n:Nat} {Q:b7} {E:Env} {H F:List aC} {ops:pp} {i:Nat}
/-- It is opened. -/
theorem WI.bxo {α:Type} {kd:Kd α} {e:TypeId} {p:Value} {x:α} (j:Nat) (hp:pick H j=some (yp kd e p x)) (k:∀ g,WI P n ops i Q E (kd.items x g++(a7 p e (kd.cells x g) :: bo H j))):WI P n ops i Q E H:=fun s ok hs=>by
  have h1:=Holds.out hs hp
  obtain ⟨b,g,e1,e2,e3⟩:=h1.q _ (List.mem_cons_self ..)
  refine k g s ok (Holds.items ?_ e3)
  exact ⟨fun y hy=>by
    rcases List.mem_cons.1 hy with rfl | hy
    · exact ⟨b,e1,e2⟩
    · exact h1.q y (List.mem_cons_of_mem _ hy),fun k hk=>h1.own k hk,h1.nd⟩
/-- It is closed. -/
theorem FS {α:Type} {kd:Kd α} {e:TypeId} {p:Value} {x:α} (g:kd.G) (j:Nat) (hp:pick H j=some (a7 p e (kd.cells x g))) (hi:∀ s,Holds s H→∀ a ∈ kd.items x g,a.q s):gI H (yp kd e p x :: bo H j):=fun s ok hs=>by
  have h1:=Holds.out hs hp
  obtain ⟨b,e1,e2⟩:=h1.q (a7 p e (kd.cells x g)) (List.mem_cons_self ..)
  refine ⟨s,rfl,ok,fun y hy=>?_,fun k hk=>h1.own k hk,h1.nd⟩
  rcases List.mem_cons.1 hy with rfl | hy
  · exact ⟨b,g,e1,e2,hi s hs⟩
  · exact h1.q y (List.mem_cons_of_mem _ hy)
/-- A row goes back, its ghost as it was. -/
theorem zS {α:Type} {R:RK α} {e:TypeId} {v:Value} {gs:List Value} {xs ys:List α} {m:Nat} {g:Value} {x:α} (j1 j2:Nat) (hp1:pick H j1=some (R.A g x)) (hp2:pick (bo H j1) j2=some (lK R e v gs xs m)) (hg:gs[m]?=some g) (hy:ys=xs.set m x) :
    gI H (bK R e v gs ys :: bo (bo H j1) j2):=by
  have h:=CS j1 j2 hp1 hp2 hg rfl hy
  have e1:gs.set m g=gs:=by rw [List.getElem?_eq_some_iff] at hg;obtain ⟨h1,rfl⟩:=hg;exact List.set_getElem_self ..
  rw [e1] at h;exact h
/-- A pointer is loaded from a slice of boxes. -/
theorem Ef {α:Type} {R:RK α} {e t:TypeId} {by_:Nat} {z v:Value} {m:Nat} {gs:List Value} {xs:List α} {x:α} (ho:rr H (bK R e v gs xs)) (hm:xs[m]?=some x) (h:dec n ops E i xI=some (t,cw v (m*1)))
    (ht:cM P t=some (false,1,by_,z)) (k:∀ g,WI P n ops (i+1) Q (E.putO (dM ops i) (R.hd g)) (Gw.fact (gs[m]?=some g) :: H)):WI P n ops i Q E H :=
  CV ho hm h ht (fun g hg=>WI.ent (fun s ok hs=>⟨s,rfl,ok,hs.consPr rfl hg⟩) (k g))
theorem CW {p:Value} {e:TypeId} {vs:List Value} (t j:Nat) (hE:E.get t=p) (hp:pick H j=some (a7 p e vs)) (g:∀ b:Nat,p=.pointer (some ⟨b,0,none⟩)→WI P n ops i Q (E.put t (.pointer (some ⟨b,0,none⟩))) (a7 (.pointer (some ⟨b,0,none⟩)) e vs :: bo H j)):WI P n ops i Q E H:=fun s ok hs a ag=>by
  obtain ⟨b,rfl,hb⟩:=hs.q _ (bp hp)
  refine g b rfl s ok (Holds.out hs hp) a (ag.same fun u=>?_)
  rw [Env.get_put]
  split
  · rename_i hu;subst hu;exact hE.symm
  · rfl
end
end Gw
