/- Own words: trees that grow by a row; truth values compared. -/
import Derived.Test.YtpjenmchinpgaaaGreatDoorGw10
import Derived.Laws.StructEq
set_option linter.unusedVariables false
namespace Gw
open Go Gv
theorem zB{α:Type}{R:RK α}{gs2:List Value}{ys:List α}:∀{gs:List Value} {xs:List α},gs.length=xs.length→dy R (gs++gs2) (xs++ys)=dy R gs xs++dy R gs2 ys
 | [],[],_=>rfl
 | [],_::_,h=>by simp at h
 | _::_,[],h=>by simp at h
 | g::gs,x::xs,h=>by
  show R.A g x::dy R (gs++gs2) (xs++ys)=R.A g x::(dy R gs xs++dy R gs2 ys)
  rw[zB (by simpa using h)]
section
variable {P:Program}{n:Nat}{Q:cQ}{E:Env}{H F:List aG}{ops:sH}{i:Nat}
theorem Nb{α:Type}{R:RK α}{e:TypeId}{v g:Value}{x:α}(j1 j2:Nat)(hp1:pick H j1=some (bE Kd.raw e v [R.hd g]))(hp2:pick (ct H j1) j2=some (R.A g x)):kJ H (cP R e v [g] [x]::ct (ct H j1) j2):=λs ok hs=>by
 have h1:=(Holds.out hs hp1).perm (List.Perm.cons _ (kx _ _ _ hp2))
 refine⟨s,rfl,ok,Holds.big.2 ?_⟩
 show Holds s (fact ([g].length=[x].length)::bE Kd.raw e v ([g].map R.hd)::R.A g x::ct (ct H j1) j2)
 exact Holds.consPr h1 rfl rfl
/-- append of a tree onto a tree -/
theorem Ng{α:Type}{R:RK α}{t e:TypeId}{by_:Nat}{z v u:Value}{gs gs2:List Value}{xs ys zs:List α}(j1 j2:Nat)(hp1:pick H j1=some (cP R e v gs xs))(hp2:pick (ct H j1) j2=some (cP R e u gs2 ys))(hz:cU by_ xs ys=some zs)(h:dec n ops E i NB=some (t,t,v,u))
  (ht:rz P t=some e) (he:dR P e=some (false,1,by_,z)) (hzs:(Nat.beq z.cells.size 1&&Nat.ble 1 1)=true)
  (g:∀v':Value,WI P n ops (i+1) Q (E.putO (eX ops i) v') (cP R e v' (gs++gs2) zs::ct (ct H j1) j2)):WI P n ops i Q E H:=λs ok hs=>by
 have hl1:=(yp (bX j1 hp1)) s hs
 have hl2:=(yp (bX (H:=ct H j1) j2 hp2)) s (Holds.out hs hp1).tail
 obtain⟨hb,rfl⟩:=aM hz
 have hz':cU by_ (gs.map R.hd) (gs2.map R.hd)=some (gs.map R.hd++gs2.map R.hd):=by
  unfold cU
  rw[if_pos]
  rw[List.length_map,List.length_map,hl1,hl2];exact hb
 refine WI.ent (H':=bE Kd.raw e v (gs.map R.hd)::bE Kd.raw e u (gs2.map R.hd)::(dy R gs xs++(dy R gs2 ys++ct (ct H j1) j2))) (λs ok hs=>⟨s,rfl,ok,?_⟩) ?_ s ok hs
 ·have h1:=(Holds.out hs hp1).perm (List.Perm.cons _ (kx _ _ _ hp2))
  have h2:=Holds.big.1 h1
  have h3:=Holds.big.1 (h2.perm List.perm_middle)
  have h4:Holds s (bE Kd.raw e u (gs2.map R.hd)::(dy R gs2 ys++(fact (gs.length=xs.length)::bE Kd.raw e v (gs.map R.hd)::(dy R gs xs++ct (ct H j1) j2)))):=h3.tail
  have h5:Holds s (fact (gs.length=xs.length)::(bE Kd.raw e u (gs2.map R.hd)::(dy R gs2 ys++(bE Kd.raw e v (gs.map R.hd)::(dy R gs xs++ct (ct H j1) j2))))):=h4.perm ((List.Perm.cons _ List.perm_middle).trans (List.Perm.swap ..))
  refine h5.tail.perm ?_
  refine(List.Perm.cons _ List.perm_middle).trans ((List.Perm.swap ..).trans (List.Perm.cons _ (List.Perm.cons _ ?_)))
  exact List.perm_append_comm_assoc ..
 ·refine cJ (kd:=Kd.raw) 0 rfl (bv (kd:=Kd.raw) 1 rfl) hz' h ht he hzs (λv'=>WI.ent (λs ok hs=>⟨s,rfl,ok,Holds.big.2 ?_⟩) (g v'))
  have h1:Holds s (bE Kd.raw e v' (gs.map R.hd++gs2.map R.hd)::bE Kd.raw e u (gs2.map R.hd)::(dy R gs xs++(dy R gs2 ys++ct (ct H j1) j2))):=hs
  have h2:=(h1.perm (List.Perm.swap ..)).tail
  show Holds s (fact ((gs++gs2).length=(xs++ys).length)::bE Kd.raw e v' ((gs++gs2).map R.hd)::(dy R (gs++gs2) (xs++ys)++ct (ct H j1) j2))
  rw[List.map_append,zB hl1,List.append_assoc]
  exact h2.consPr rfl (show(gs++gs2).length=(xs++ys).length by rw[List.length_append,List.length_append,hl1,hl2])
def D3(P:Program)(t:TypeId):Bool:=match P.underlying t with | some .bool=>true | _=>false
theorem C4{t:TypeId}(h:D3 P t=true):P.underlying t=some .bool:=by
 unfold D3 at h
 split at h
 ·assumption
 ·cases h
def PV(E:Env)(o:Oper):Option (BinOp×TypeId×TypeId×Bool×Bool):=match o.op with
 | .binOp op t x y yt=>match E.ev x,E.ev y with | .bool a,.bool b=>some (op,t,yt,a,b) | _,_=>none
 | _=>none
theorem FY{o:Oper}{op:BinOp}{t yt:TypeId}{a b:Bool}(h:PV E o=some (op,t,yt,a,b)):∃x y,o.op=.binOp op t x y yt∧E.ev x=.bool a∧E.ev y=.bool b:=by
 unfold PV at h
 split at h
 ·rename_i op' t' x y yt' hop
  split at h
  ·rename_i a' b' hx hy;cases h;exact⟨x,y,hop,hx,hy⟩
  ·cases h
 ·cases h
theorem Np{t yt:TypeId}{a b:Bool}(h:dec n ops E i PV=some (.neq,t,yt,a,b))(ht:D3 P t=true)(g:WI P n ops (i+1) Q (E.putO (eX ops i) (.bool (a != b))) H):WI P n ops i Q E H :=
 qz h (λo ho s _ _=>by
  obtain⟨x,y,hop,hx,hy⟩:=FY ho
  unfold execOp
  rw[hop]
  simp only[]
  rw[hx,hy]
  have e:(Op.equal t (.bool a) (.bool b)).run P s.w=.ok (a==b) s.w:=run_equalIn_bool' s.w 9999 t a b (C4 ht)
  simp[eqGuard,Go.binOp,e]
  try (cases a <;> cases b <;> rfl)) g
end
end Gw
