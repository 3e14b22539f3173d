/- Own words: boxes that a slice of pointers holds (rows of a tree that are boxes). -/
import Derived.Test.YtpjenmchinpgaaaGreatDoorGw13
set_option linter.unusedVariables false
namespace Gw
open Go Gv
/-- A box whose content is a datum. -/
def Ip{α:Type}(kd:Kd α)(e:TypeId)(p:Value)(x:α):aG :=
  ⟨qQ p,fun s=>∃ b g,p=.pointer (some ⟨b,0,none⟩)∧s.w.heap[b]?=some (.cells (kd.cells x g).toArray e (0,0))∧∀ a ∈ kd.items x g,a.q s,
   fun a b h hb ⟨k,g,e1,e2,e3⟩=>⟨k,g,e1,(hb k (by subst e1;simp [qQ])).trans e2,fun y hy=>y.st a b h (fun k hk=>by rw [kd.pers x g y hy] at hk;cases hk) (e3 y hy)⟩⟩
abbrev zY{α:Type}(kd:Kd α)(e:TypeId):RK α:=⟨id,λp x=>Ip kd e p x⟩
section
variable {P:Program}{n:Nat}{Q:cQ}{E:Env}{H F:List aG}{ops:sH}{i:Nat}
/-- It is opened. -/
theorem WI.bxo{α:Type}{kd:Kd α}{e:TypeId}{p:Value}{x:α}(j:Nat)(hp:pick H j=some (Ip kd e p x))(k:∀g,WI P n ops i Q E (kd.items x g++(bH p e (kd.cells x g)::ct H j))):WI P n ops i Q E H:=λs ok hs=>by
 have h1:=Holds.out hs hp
 obtain⟨b,g,e1,e2,e3⟩:=h1.q _ (List.mem_cons_self ..)
 refine k g s ok (Holds.items ?_ e3)
 exact⟨λy hy=>by
  rcases List.mem_cons.1 hy with rfl | hy
  ·exact⟨b,e1,e2⟩
  ·exact h1.q y (List.mem_cons_of_mem _ hy),λk hk=>h1.own k hk,h1.nd⟩
/-- It is closed. -/
theorem Pj{α:Type}{kd:Kd α}{e:TypeId}{p:Value}{x:α}(g:kd.G)(j:Nat)(hp:pick H j=some (bH p e (kd.cells x g)))(hi:∀s,Holds s H→∀a∈kd.items x g,a.q s):kJ H (Ip kd e p x::ct H j):=λs ok hs=>by
 have h1:=Holds.out hs hp
 obtain⟨b,e1,e2⟩:=h1.q (bH p e (kd.cells x g)) (List.mem_cons_self ..)
 refine⟨s,rfl,ok,λy hy=>?_,λk hk=>h1.own k hk,h1.nd⟩
 rcases List.mem_cons.1 hy with rfl | hy
 ·exact⟨b,g,e1,e2,hi s hs⟩
 ·exact h1.q y (List.mem_cons_of_mem _ hy)
/-- A row goes back, its ghost as it was. -/
theorem HQ{α:Type}{R:RK α}{e:TypeId}{v:Value}{gs:List Value}{xs ys:List α}{m:Nat}{g:Value}{x:α}(j1 j2:Nat)(hp1:pick H j1=some (R.A g x))(hp2:pick (ct H j1) j2=some (pX R e v gs xs m))(hg:gs[m]?=some g)(hy:ys=xs.set m x) :
  kJ H (cP R e v gs ys::ct (ct H j1) j2):=by
 have h:=HP j1 j2 hp1 hp2 hg rfl hy
 have e1:gs.set m g=gs:=by rw[List.getElem?_eq_some_iff] at hg;obtain⟨h1,rfl⟩:=hg;exact List.set_getElem_self ..
 rw[e1] at h;exact h
/-- A pointer is loaded from a slice of boxes. -/
theorem Nl{α:Type}{R:RK α}{e t:TypeId}{by_:Nat}{z v:Value}{m:Nat}{gs:List Value}{xs:List α}{x:α}(ho:xh H (cP R e v gs xs))(hm:xs[m]?=some x)(h:dec n ops E i Ez=some (t,dp v (m*1)))
  (ht:dR P t=some (false,1,by_,z)) (k:∀g,WI P n ops (i+1) Q (E.putO (eX ops i) (R.hd g)) (Gw.fact (gs[m]?=some g)::H)):WI P n ops i Q E H :=
 Lv ho hm h ht (λg hg=>WI.ent (λs ok hs=>⟨s,rfl,ok,hs.consPr rfl hg⟩) (k g))
theorem OQ{p:Value}{e:TypeId}{vs:List Value}(t j:Nat)(hE:E.get t=p)(hp:pick H j=some (bH p e vs))(g:∀b:Nat,p=.pointer (some ⟨b,0,none⟩)→WI P n ops i Q (E.put t (.pointer (some ⟨b,0,none⟩))) (bH (.pointer (some ⟨b,0,none⟩)) e vs::ct H j)):WI P n ops i Q E H:=λs ok hs μ a ag=>by
 obtain⟨b,rfl,hb⟩:=hs.q _ (cj hp)
 refine g b rfl s ok (Holds.out hs hp) μ a (ag.same λu=>?_)
 rw[Env.get_put]
 split
 ·rename_i hu;subst hu;exact hE.symm
 ·rfl
end
end Gw
