/- Own words: boxes that a slice of pointers holds (rows of a tree that are boxes). -/
import Derived.Test.YtkmbblnepjofaaaGreatDoorGw13
set_option linter.unusedVariables false
namespace Gw
open Go Gv
/-- A box whose content is a datum. -/
def AJ {α:Type} (kd:Kd α) (e:TypeId) (p:Value) (x:α):aA :=
  ⟨py p,fun s=>∃ b g,p=.pointer (some ⟨b,0,none⟩)∧s.w.heap[b]?=some (.cells (kd.cells x g).toArray e (0,0))∧∀ a ∈ kd.items x g,a.q s,
   fun a b h hb ⟨k,g,e1,e2,e3⟩=>⟨k,g,e1,(hb k (by subst e1;simp [py])).trans e2,fun y hy=>y.st a b h (fun k hk=>by rw [kd.pers x g y hy] at hk;cases hk) (e3 y hy)⟩⟩
abbrev vv {α:Type} (kd:Kd α) (e:TypeId):RK α:=⟨id,fun p x=>AJ kd e p x⟩
section
variable {P:Program} {n:Nat} {Q:cI} {E:Env} {H F:List aA} {ops:qR} {i:Nat}
/-- It is opened. -/
theorem WI.bxo {α:Type} {kd:Kd α} {e:TypeId} {p:Value} {x:α} (j:Nat) (hp:pick H j=some (AJ kd e p x)) (k:∀ g,WI P n ops i Q E (kd.items x g++(bA p e (kd.cells x g) :: da H j))):WI P n ops i Q E H:=fun s ok hs=>by
  have h1:=Holds.out hs hp
  obtain ⟨b,g,e1,e2,e3⟩:=h1.q _ (List.mem_cons_self ..)
  refine k g s ok (Holds.items ?_ e3)
  exact ⟨fun y hy=>by
    rcases List.mem_cons.1 hy with rfl | hy
    · exact ⟨b,e1,e2⟩
    · exact h1.q y (List.mem_cons_of_mem _ hy),fun k hk=>h1.own k hk,h1.nd⟩
/-- It is closed. -/
theorem Jw {α:Type} {kd:Kd α} {e:TypeId} {p:Value} {x:α} (g:kd.G) (j:Nat) (hp:pick H j=some (bA p e (kd.cells x g))) (hi:∀ s,Holds s H→∀ a ∈ kd.items x g,a.q s):ka H (AJ kd e p x :: da H j):=fun s ok hs=>by
  have h1:=Holds.out hs hp
  obtain ⟨b,e1,e2⟩:=h1.q (bA p e (kd.cells x g)) (List.mem_cons_self ..)
  refine ⟨s,rfl,ok,fun y hy=>?_,fun k hk=>h1.own k hk,h1.nd⟩
  rcases List.mem_cons.1 hy with rfl | hy
  · exact ⟨b,g,e1,e2,hi s hs⟩
  · exact h1.q y (List.mem_cons_of_mem _ hy)
/-- A row goes back, its ghost as it was. -/
theorem Cp {α:Type} {R:RK α} {e:TypeId} {v:Value} {gs:List Value} {xs ys:List α} {m:Nat} {g:Value} {x:α} (j1 j2:Nat) (hp1:pick H j1=some (R.A g x)) (hp2:pick (da H j1) j2=some (m6 R e v gs xs m)) (hg:gs[m]?=some g) (hy:ys=xs.set m x) :
    ka H (cM R e v gs ys :: da (da H j1) j2):=by
  have h:=F1 j1 j2 hp1 hp2 hg rfl hy
  have e1:gs.set m g=gs:=by rw [List.getElem?_eq_some_iff] at hg;obtain ⟨h1,rfl⟩:=hg;exact List.set_getElem_self ..
  rw [e1] at h;exact h
/-- A pointer is loaded from a slice of boxes. -/
theorem HC {α:Type} {R:RK α} {e t:TypeId} {by_:Nat} {z v:Value} {m:Nat} {gs:List Value} {xs:List α} {x:α} (ho:ug H (cM R e v gs xs)) (hm:xs[m]?=some x) (h:dec n ops E i Av=some (t,dZ v (m*1)))
    (ht:dD P t=some (false,1,by_,z)) (k:∀ g,WI P n ops (i+1) Q (E.putO (fk ops i) (R.hd g)) (Gw.fact (gs[m]?=some g) :: H)):WI P n ops i Q E H :=
  F8 ho hm h ht (fun g hg=>WI.ent (fun s ok hs=>⟨s,rfl,ok,hs.consPr rfl hg⟩) (k g))
theorem F9 {p:Value} {e:TypeId} {vs:List Value} (t j:Nat) (hE:E.get t=p) (hp:pick H j=some (bA p e vs)) (g:∀ b:Nat,p=.pointer (some ⟨b,0,none⟩)→WI P n ops i Q (E.put t (.pointer (some ⟨b,0,none⟩))) (bA (.pointer (some ⟨b,0,none⟩)) e vs :: da H j)):WI P n ops i Q E H:=fun s ok hs a ag=>by
  obtain ⟨b,rfl,hb⟩:=hs.q _ (ct hp)
  refine g b rfl s ok (Holds.out hs hp) a (ag.same fun u=>?_)
  rw [Env.get_put]
  split
  · rename_i hu;subst hu;exact hE.symm
  · rfl
end
end Gw
