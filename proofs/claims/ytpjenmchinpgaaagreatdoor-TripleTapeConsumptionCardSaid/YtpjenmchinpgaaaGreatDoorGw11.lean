/- Own words: trees that grow by a row; truth values compared. -/
import Derived.Test.YtpjenmchinpgaaaGreatDoorGw10
import Derived.Laws.StructEq
set_option linter.unusedVariables false
namespace Gw
open Go Gv
theorem yT {α:Type} {R:RK α} {gs2:List Value} {ys:List α}:∀ {gs:List Value} {xs:List α},gs.length=xs.length→dm R (gs++gs2) (xs++ys)=dm R gs xs++dm R gs2 ys
  | [],[],_=>rfl
  | [],_ :: _,h=>by simp at h
  | _ :: _,[],h=>by simp at h
  | g :: gs,x :: xs,h=>by
    show R.A g x :: dm R (gs++gs2) (xs++ys)=R.A g x :: (dm R gs xs++dm R gs2 ys)
    rw [yT (by simpa using h)]
section
variable {P:Program} {n:Nat} {Q:cM} {E:Env} {H F:List aF} {ops:sO} {i:Nat}
theorem Mt {α:Type} {R:RK α} {e:TypeId} {v g:Value} {x:α} (j1 j2:Nat) (hp1:pick H j1=some (bD Kd.raw e v [R.hd g])) (hp2:pick (ck H j1) j2=some (R.A g x)):kj H (cL R e v [g] [x] :: ck (ck H j1) j2):=fun s ok hs=>by
  have h1:=(Holds.out hs hp1).perm (List.Perm.cons _ (jU _ _ _ hp2))
  refine ⟨s,rfl,ok,Holds.big.2 ?_⟩
  show Holds s (fact ([g].length=[x].length) :: bD Kd.raw e v ([g].map R.hd) :: R.A g x :: ck (ck H j1) j2)
  exact Holds.consPr h1 rfl rfl
/-- append of a tree onto a tree -/
theorem Mw {α:Type} {R:RK α} {t e:TypeId} {by_:Nat} {z v u:Value} {gs gs2:List Value} {xs ys zs:List α} (j1 j2:Nat) (hp1:pick H j1=some (cL R e v gs xs)) (hp2:pick (ck H j1) j2=some (cL R e u gs2 ys)) (hz:cP by_ xs ys=some zs) (h:dec n ops E i MP=some (t,t,v,u))
    (ht:rH P t=some e) (he:dM P e=some (false,1,by_,z)) (hzs:(Nat.beq z.cells.size 1 && Nat.ble 1 1)=true)
    (g:∀ v':Value,WI P n ops (i+1) Q (E.putO (eM ops i) v') (cL R e v' (gs++gs2) zs :: ck (ck H j1) j2)):WI P n ops i Q E H:=fun s ok hs=>by
  have hl1:=(xK (bV j1 hp1)) s hs
  have hl2:=(xK (bV (H:=ck H j1) j2 hp2)) s (Holds.out hs hp1).tail
  obtain ⟨hb,rfl⟩:=aM hz
  have hz':cP by_ (gs.map R.hd) (gs2.map R.hd)=some (gs.map R.hd++gs2.map R.hd):=by
    unfold cP
    rw [if_pos]
    rw [List.length_map,List.length_map,hl1,hl2];exact hb
  refine WI.ent (H':=bD Kd.raw e v (gs.map R.hd) :: bD Kd.raw e u (gs2.map R.hd) :: (dm R gs xs++(dm R gs2 ys++ck (ck H j1) j2))) (fun s ok hs=>⟨s,rfl,ok,?_⟩) ?_ s ok hs
  · have h1:=(Holds.out hs hp1).perm (List.Perm.cons _ (jU _ _ _ hp2))
    have h2:=Holds.big.1 h1
    have h3:=Holds.big.1 (h2.perm List.perm_middle)
    have h4:Holds s (bD Kd.raw e u (gs2.map R.hd) :: (dm R gs2 ys++(fact (gs.length=xs.length) :: bD Kd.raw e v (gs.map R.hd) :: (dm R gs xs++ck (ck H j1) j2)))):=h3.tail
    have h5:Holds s (fact (gs.length=xs.length) :: (bD Kd.raw e u (gs2.map R.hd) :: (dm R gs2 ys++(bD Kd.raw e v (gs.map R.hd) :: (dm R gs xs++ck (ck H j1) j2))))):=h4.perm ((List.Perm.cons _ List.perm_middle).trans (List.Perm.swap ..))
    refine h5.tail.perm ?_
    refine (List.Perm.cons _ List.perm_middle).trans ((List.Perm.swap ..).trans (List.Perm.cons _ (List.Perm.cons _ ?_)))
    exact List.perm_append_comm_assoc ..
  · refine cH (kd:=Kd.raw) 0 rfl (bv (kd:=Kd.raw) 1 rfl) hz' h ht he hzs (fun v'=>WI.ent (fun s ok hs=>⟨s,rfl,ok,Holds.big.2 ?_⟩) (g v'))
    have h1:Holds s (bD Kd.raw e v' (gs.map R.hd++gs2.map R.hd) :: bD Kd.raw e u (gs2.map R.hd) :: (dm R gs xs++(dm R gs2 ys++ck (ck H j1) j2))):=hs
    have h2:=(h1.perm (List.Perm.swap ..)).tail
    show Holds s (fact ((gs++gs2).length=(xs++ys).length) :: bD Kd.raw e v' ((gs++gs2).map R.hd) :: (dm R (gs++gs2) (xs++ys)++ck (ck H j1) j2))
    rw [List.map_append,yT hl1,List.append_assoc]
    exact h2.consPr rfl (show (gs++gs2).length=(xs++ys).length by rw [List.length_append,List.length_append,hl1,hl2])
def Dm (P:Program) (t:TypeId):Bool:=match P.underlying t with | some .bool=>true | _=>false
theorem Cx {t:TypeId} (h:Dm P t=true):P.underlying t=some .bool:=by
  unfold Dm at h
  split at h
  · assumption
  · cases h
def O5 (E:Env) (o:Oper):Option (BinOp × TypeId × TypeId × Bool × Bool):=match o.op with
  | .binOp op t x y yt=>match E.ev x,E.ev y with | .bool a,.bool b=>some (op,t,yt,a,b) | _,_=>none
  | _=>none
theorem Fj {o:Oper} {op:BinOp} {t yt:TypeId} {a b:Bool} (h:O5 E o=some (op,t,yt,a,b)):∃ x y,o.op=.binOp op t x y yt∧E.ev x=.bool a∧E.ev y=.bool b:=by
  unfold O5 at h
  split at h
  · rename_i op' t' x y yt' hop
    split at h
    · rename_i a' b' hx hy;cases h;exact ⟨x,y,hop,hx,hy⟩
    · cases h
  · cases h
theorem MA {t yt:TypeId} {a b:Bool} (h:dec n ops E i O5=some (.eql,t,yt,a,b)) (ht:Dm P t=true) (g:WI P n ops (i+1) Q (E.putO (eM ops i) (.bool (a == b))) H):WI P n ops i Q E H :=
  qx h (fun o ho s _ _=>by
    obtain ⟨x,y,hop,hx,hy⟩:=Fj ho
    unfold execOp
    rw [hop]
    simp only []
    rw [hx,hy]
    have e:(Op.equal t (.bool a) (.bool b)).run P s.w=.ok (a == b) s.w:=run_equalIn_bool' s.w 9999 t a b (Cx ht)
    simp [eqGuard,Go.binOp,e]) g
end
end Gw
