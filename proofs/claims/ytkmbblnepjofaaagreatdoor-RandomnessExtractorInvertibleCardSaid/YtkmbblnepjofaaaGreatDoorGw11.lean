/- Own words: trees that grow by a row; truth values compared. -/
import Derived.Test.YtkmbblnepjofaaaGreatDoorGw10
import Derived.Laws.StructEq
set_option linter.unusedVariables false
namespace Gw
open Go Gv
theorem tD {α:Type} {R:RK α} {gs2:List Value} {ys:List α}:∀ {gs:List Value} {xs:List α},gs.length=xs.length→bX R (gs++gs2) (xs++ys)=bX R gs xs++bX R gs2 ys
  | [],[],_=>rfl
  | [],_ :: _,h=>by simp at h
  | _ :: _,[],h=>by simp at h
  | g :: gs,x :: xs,h=>by
    show R.A g x :: bX R (gs++gs2) (xs++ys)=R.A g x :: (bX R gs xs++bX R gs2 ys)
    rw [tD (by simpa using h)]
section
variable {P:Program} {n:Nat} {Q:b7} {E:Env} {H F:List aC} {ops:pp} {i:Nat}
theorem Eb {α:Type} {R:RK α} {e:TypeId} {v g:Value} {x:α} (j1 j2:Nat) (hp1:pick H j1=some (bb Kd.raw e v [R.hd g])) (hp2:pick (bo H j1) j2=some (R.A g x)):gI H (bK R e v [g] [x] :: bo (bo H j1) j2):=fun s ok hs=>by
  have h1:=(Holds.out hs hp1).perm (List.Perm.cons _ (gN _ _ _ hp2))
  refine ⟨s,rfl,ok,Holds.big.2 ?_⟩
  show Holds s (fact ([g].length=[x].length) :: bb Kd.raw e v ([g].map R.hd) :: R.A g x :: bo (bo H j1) j2)
  exact Holds.consPr h1 rfl rfl
/-- append of a tree onto a tree -/
theorem Ec {α:Type} {R:RK α} {t e:TypeId} {by_:Nat} {z v u:Value} {gs gs2:List Value} {xs ys zs:List α} (j1 j2:Nat) (hp1:pick H j1=some (bK R e v gs xs)) (hp2:pick (bo H j1) j2=some (bK R e u gs2 ys)) (hz:cY by_ xs ys=some zs) (h:dec n ops E i EI=some (t,t,v,u))
    (ht:oj P t=some e) (he:cM P e=some (false,1,by_,z)) (hzs:(Nat.beq z.cells.size 1 && Nat.ble 1 1)=true)
    (g:∀ v':Value,WI P n ops (i+1) Q (E.putO (dM ops i) v') (bK R e v' (gs++gs2) zs :: bo (bo H j1) j2)):WI P n ops i Q E H:=fun s ok hs=>by
  have hl1:=(sB (bi j1 hp1)) s hs
  have hl2:=(sB (bi (H:=bo H j1) j2 hp2)) s (Holds.out hs hp1).tail
  obtain ⟨hb,rfl⟩:=ei hz
  have hz':cY by_ (gs.map R.hd) (gs2.map R.hd)=some (gs.map R.hd++gs2.map R.hd):=by
    unfold cY
    rw [if_pos]
    rw [List.length_map,List.length_map,hl1,hl2];exact hb
  refine WI.ent (H':=bb Kd.raw e v (gs.map R.hd) :: bb Kd.raw e u (gs2.map R.hd) :: (bX R gs xs++(bX R gs2 ys++bo (bo H j1) j2))) (fun s ok hs=>⟨s,rfl,ok,?_⟩) ?_ s ok hs
  · have h1:=(Holds.out hs hp1).perm (List.Perm.cons _ (gN _ _ _ hp2))
    have h2:=Holds.big.1 h1
    have h3:=Holds.big.1 (h2.perm List.perm_middle)
    have h4:Holds s (bb Kd.raw e u (gs2.map R.hd) :: (bX R gs2 ys++(fact (gs.length=xs.length) :: bb Kd.raw e v (gs.map R.hd) :: (bX R gs xs++bo (bo H j1) j2)))):=h3.tail
    have h5:Holds s (fact (gs.length=xs.length) :: (bb Kd.raw e u (gs2.map R.hd) :: (bX R gs2 ys++(bb Kd.raw e v (gs.map R.hd) :: (bX R gs xs++bo (bo H j1) j2))))):=h4.perm ((List.Perm.cons _ List.perm_middle).trans (List.Perm.swap ..))
    refine h5.tail.perm ?_
    refine (List.Perm.cons _ List.perm_middle).trans ((List.Perm.swap ..).trans (List.Perm.cons _ (List.Perm.cons _ ?_)))
    exact List.perm_append_comm_assoc ..
  · refine cv (kd:=Kd.raw) 0 rfl (bd (kd:=Kd.raw) 1 rfl) hz' h ht he hzs (fun v'=>WI.ent (fun s ok hs=>⟨s,rfl,ok,Holds.big.2 ?_⟩) (g v'))
    have h1:Holds s (bb Kd.raw e v' (gs.map R.hd++gs2.map R.hd) :: bb Kd.raw e u (gs2.map R.hd) :: (bX R gs xs++(bX R gs2 ys++bo (bo H j1) j2))):=hs
    have h2:=(h1.perm (List.Perm.swap ..)).tail
    show Holds s (fact ((gs++gs2).length=(xs++ys).length) :: bb Kd.raw e v' ((gs++gs2).map R.hd) :: (bX R (gs++gs2) (xs++ys)++bo (bo H j1) j2))
    rw [List.map_append,tD hl1,List.append_assoc]
    exact h2.consPr rfl (show (gs++gs2).length=(xs++ys).length by rw [List.length_append,List.length_append,hl1,hl2])
end
end Gw
