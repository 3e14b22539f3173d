/- Own words: trees that grow by a row; truth values compared. -/
import Derived.Test.YtahofpgjianhdaaGreatDoorGw10
import Derived.Laws.StructEq
set_option linter.unusedVariables false
namespace Gw
open Go Gv
theorem wd {α:Type} {R:RK α} {gs2:List Value} {ys:List α}:∀ {gs:List Value} {xs:List α},gs.length=xs.length→eC R (gs++gs2) (xs++ys)=eC R gs xs++eC R gs2 ys
  | [],[],_=>rfl
  | [],_ :: _,h=>by simp at h
  | _ :: _,[],h=>by simp at h
  | g :: gs,x :: xs,h=>by
    show R.A g x :: eC R (gs++gs2) (xs++ys)=R.A g x :: (eC R gs xs++eC R gs2 ys)
    rw [wd (by simpa using h)]
section
variable {P:Program} {n:Nat} {Q:db} {E:Env} {H F:List aS} {ops:sf} {i:Nat}
theorem zC {α:Type} {R:RK α} {e:TypeId} {v g:Value} {x:α} (j1 j2:Nat) (hp1:pick H j1=some (cJ Kd.raw e v [R.hd g])) (hp2:pick (dO H j1) j2=some (R.A g x)):kZ H (cV R e v [g] [x] :: dO (dO H j1) j2):=fun s ok hs=>by
  have h1:=(Holds.out hs hp1).perm (List.Perm.cons _ (lI _ _ _ hp2))
  refine ⟨s,rfl,ok,Holds.big.2 ?_⟩
  show Holds s (fact ([g].length=[x].length) :: cJ Kd.raw e v ([g].map R.hd) :: R.A g x :: dO (dO H j1) j2)
  exact Holds.consPr h1 rfl rfl
/-- append of a tree onto a tree -/
theorem zE {α:Type} {R:RK α} {t e:TypeId} {by_:Nat} {z v u:Value} {gs gs2:List Value} {xs ys zs:List α} (j1 j2:Nat) (hp1:pick H j1=some (cV R e v gs xs)) (hp2:pick (dO H j1) j2=some (cV R e u gs2 ys)) (hz:cW by_ xs ys=some zs) (h:dec n ops E i Ji=some (t,t,v,u))
    (ht:rN P t=some e) (he:eI P e=some (false,1,by_,z)) (hzs:(Nat.beq z.cells.size 1 && Nat.ble 1 1)=true)
    (g:∀ v':Value,WI P n ops (i+1) Q (E.putO (fZ ops i) v') (cV R e v' (gs++gs2) zs :: dO (dO H j1) j2)):WI P n ops i Q E H:=fun s ok hs=>by
  have hl1:=(vm (bz j1 hp1)) s hs
  have hl2:=(vm (bz (H:=dO H j1) j2 hp2)) s (Holds.out hs hp1).tail
  obtain ⟨hb,rfl⟩:=aV hz
  have hz':cW by_ (gs.map R.hd) (gs2.map R.hd)=some (gs.map R.hd++gs2.map R.hd):=by
    unfold cW
    rw [if_pos]
    rw [List.length_map,List.length_map,hl1,hl2];exact hb
  refine WI.ent (H':=cJ Kd.raw e v (gs.map R.hd) :: cJ Kd.raw e u (gs2.map R.hd) :: (eC R gs xs++(eC R gs2 ys++dO (dO H j1) j2))) (fun s ok hs=>⟨s,rfl,ok,?_⟩) ?_ s ok hs
  · have h1:=(Holds.out hs hp1).perm (List.Perm.cons _ (lI _ _ _ hp2))
    have h2:=Holds.big.1 h1
    have h3:=Holds.big.1 (h2.perm List.perm_middle)
    have h4:Holds s (cJ Kd.raw e u (gs2.map R.hd) :: (eC R gs2 ys++(fact (gs.length=xs.length) :: cJ Kd.raw e v (gs.map R.hd) :: (eC R gs xs++dO (dO H j1) j2)))):=h3.tail
    have h5:Holds s (fact (gs.length=xs.length) :: (cJ Kd.raw e u (gs2.map R.hd) :: (eC R gs2 ys++(cJ Kd.raw e v (gs.map R.hd) :: (eC R gs xs++dO (dO H j1) j2))))):=h4.perm ((List.Perm.cons _ List.perm_middle).trans (List.Perm.swap ..))
    refine h5.tail.perm ?_
    refine (List.Perm.cons _ List.perm_middle).trans ((List.Perm.swap ..).trans (List.Perm.cons _ (List.Perm.cons _ ?_)))
    exact List.perm_append_comm_assoc ..
  · refine cQ (kd:=Kd.raw) 0 rfl (bK (kd:=Kd.raw) 1 rfl) hz' h ht he hzs (fun v'=>WI.ent (fun s ok hs=>⟨s,rfl,ok,Holds.big.2 ?_⟩) (g v'))
    have h1:Holds s (cJ Kd.raw e v' (gs.map R.hd++gs2.map R.hd) :: cJ Kd.raw e u (gs2.map R.hd) :: (eC R gs xs++(eC R gs2 ys++dO (dO H j1) j2))):=hs
    have h2:=(h1.perm (List.Perm.swap ..)).tail
    show Holds s (fact ((gs++gs2).length=(xs++ys).length) :: cJ Kd.raw e v' ((gs++gs2).map R.hd) :: (eC R (gs++gs2) (xs++ys)++dO (dO H j1) j2))
    rw [List.map_append,wd hl1,List.append_assoc]
    exact h2.consPr rfl (show (gs++gs2).length=(xs++ys).length by rw [List.length_append,List.length_append,hl1,hl2])
def AH (P:Program) (t:TypeId):Bool:=match P.underlying t with | some .bool=>true | _=>false
theorem zy {t:TypeId} (h:AH P t=true):P.underlying t=some .bool:=by
  unfold AH at h
  split at h
  · assumption
  · cases h
def KT (E:Env) (o:Oper):Option (BinOp × TypeId × TypeId × Bool × Bool):=match o.op with
  | .binOp op t x y yt=>match E.ev x,E.ev y with | .bool a,.bool b=>some (op,t,yt,a,b) | _,_=>none
  | _=>none
theorem Ck {o:Oper} {op:BinOp} {t yt:TypeId} {a b:Bool} (h:KT E o=some (op,t,yt,a,b)):∃ x y,o.op=.binOp op t x y yt∧E.ev x=.bool a∧E.ev y=.bool b:=by
  unfold KT at h
  split at h
  · rename_i op' t' x y yt' hop
    split at h
    · rename_i a' b' hx hy;cases h;exact ⟨x,y,hop,hx,hy⟩
    · cases h
  · cases h
theorem IE {t yt:TypeId} {a b:Bool} (h:dec n ops E i KT=some (.neq,t,yt,a,b)) (ht:AH P t=true) (g:WI P n ops (i+1) Q (E.putO (fZ ops i) (.bool (a != b))) H):WI P n ops i Q E H :=
  qP h (fun o ho s _ _=>by
    obtain ⟨x,y,hop,hx,hy⟩:=Ck ho
    unfold execOp
    rw [hop]
    simp only []
    rw [hx,hy]
    have e:(Op.equal t (.bool a) (.bool b)).run P s.w=.ok (a == b) s.w:=run_equalIn_bool' s.w 9999 t a b (zy ht)
    simp [eqGuard,Go.binOp,e]
    try (cases a <;> cases b <;> rfl)) g
end
end Gw
