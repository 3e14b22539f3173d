/- Own words: trees that grow by a row; truth values compared. -/
import Derived.Test.YtpjenmchinpgaaaGreatDoorGw10
import Derived.Laws.StructEq
set_option linter.unusedVariables false
namespace Gw
open Go Gv
theorem yS {α:Type} {R:RK α} {gs2:List Value} {ys:List α}:∀ {gs:List Value} {xs:List α},gs.length=xs.length→dp R (gs++gs2) (xs++ys)=dp R gs xs++dp R gs2 ys
  | [],[],_=>rfl
  | [],_ :: _,h=>by simp at h
  | _ :: _,[],h=>by simp at h
  | g :: gs,x :: xs,h=>by
    show R.A g x :: dp R (gs++gs2) (xs++ys)=R.A g x :: (dp R gs xs++dp R gs2 ys)
    rw [yS (by simpa using h)]
section
variable {P:Program} {n:Nat} {Q:cM} {E:Env} {H F:List aE} {ops:sO} {i:Nat}
theorem Mr {α:Type} {R:RK α} {e:TypeId} {v g:Value} {x:α} (j1 j2:Nat) (hp1:pick H j1=some (bD Kd.raw e v [R.hd g])) (hp2:pick (cj H j1) j2=some (R.A g x)):kj H (cL R e v [g] [x] :: cj (cj H j1) j2):=fun s ok hs=>by
  have h1:=(Holds.out hs hp1).perm (List.Perm.cons _ (jU _ _ _ hp2))
  refine ⟨s,rfl,ok,Holds.big.2 ?_⟩
  show Holds s (fact ([g].length=[x].length) :: bD Kd.raw e v ([g].map R.hd) :: R.A g x :: cj (cj H j1) j2)
  exact Holds.consPr h1 rfl rfl
/-- append of a tree onto a tree -/
theorem Mu {α:Type} {R:RK α} {t e:TypeId} {by_:Nat} {z v u:Value} {gs gs2:List Value} {xs ys zs:List α} (j1 j2:Nat) (hp1:pick H j1=some (cL R e v gs xs)) (hp2:pick (cj H j1) j2=some (cL R e u gs2 ys)) (hz:cP by_ xs ys=some zs) (h:dec n ops E i MM=some (t,t,v,u))
    (ht:rG P t=some e) (he:dM P e=some (false,1,by_,z)) (hzs:(Nat.beq z.cells.size 1 && Nat.ble 1 1)=true)
    (g:∀ v':Value,WI P n ops (i+1) Q (E.putO (eW ops i) v') (cL R e v' (gs++gs2) zs :: cj (cj H j1) j2)):WI P n ops i Q E H:=fun s ok hs=>by
  have hl1:=(xJ (bV j1 hp1)) s hs
  have hl2:=(xJ (bV (H:=cj H j1) j2 hp2)) s (Holds.out hs hp1).tail
  obtain ⟨hb,rfl⟩:=aM hz
  have hz':cP by_ (gs.map R.hd) (gs2.map R.hd)=some (gs.map R.hd++gs2.map R.hd):=by
    unfold cP
    rw [if_pos]
    rw [List.length_map,List.length_map,hl1,hl2];exact hb
  refine WI.ent (H':=bD Kd.raw e v (gs.map R.hd) :: bD Kd.raw e u (gs2.map R.hd) :: (dp R gs xs++(dp R gs2 ys++cj (cj H j1) j2))) (fun s ok hs=>⟨s,rfl,ok,?_⟩) ?_ s ok hs
  · have h1:=(Holds.out hs hp1).perm (List.Perm.cons _ (jU _ _ _ hp2))
    have h2:=Holds.big.1 h1
    have h3:=Holds.big.1 (h2.perm List.perm_middle)
    have h4:Holds s (bD Kd.raw e u (gs2.map R.hd) :: (dp R gs2 ys++(fact (gs.length=xs.length) :: bD Kd.raw e v (gs.map R.hd) :: (dp R gs xs++cj (cj H j1) j2)))):=h3.tail
    have h5:Holds s (fact (gs.length=xs.length) :: (bD Kd.raw e u (gs2.map R.hd) :: (dp R gs2 ys++(bD Kd.raw e v (gs.map R.hd) :: (dp R gs xs++cj (cj H j1) j2))))):=h4.perm ((List.Perm.cons _ List.perm_middle).trans (List.Perm.swap ..))
    refine h5.tail.perm ?_
    refine (List.Perm.cons _ List.perm_middle).trans ((List.Perm.swap ..).trans (List.Perm.cons _ (List.Perm.cons _ ?_)))
    exact List.perm_append_comm_assoc ..
  · refine cH (kd:=Kd.raw) 0 rfl (bv (kd:=Kd.raw) 1 rfl) hz' h ht he hzs (fun v'=>WI.ent (fun s ok hs=>⟨s,rfl,ok,Holds.big.2 ?_⟩) (g v'))
    have h1:Holds s (bD Kd.raw e v' (gs.map R.hd++gs2.map R.hd) :: bD Kd.raw e u (gs2.map R.hd) :: (dp R gs xs++(dp R gs2 ys++cj (cj H j1) j2))):=hs
    have h2:=(h1.perm (List.Perm.swap ..)).tail
    show Holds s (fact ((gs++gs2).length=(xs++ys).length) :: bD Kd.raw e v' ((gs++gs2).map R.hd) :: (dp R (gs++gs2) (xs++ys)++cj (cj H j1) j2))
    rw [List.map_append,yS hl1,List.append_assoc]
    exact h2.consPr rfl (show (gs++gs2).length=(xs++ys).length by rw [List.length_append,List.length_append,hl1,hl2])
end
end Gw
