/- Short names for what contracts name most. -/
import Derived.Test.YtkmbblnepjofaaaGreatDoorGw14
namespace Gw
open Go Gv
abbrev Ku:=Kd.u64
abbrev Ki:=Kd.i64
abbrev Ks:=Kd.sl Kd.u64
abbrev rU:=nt Kd.u64
abbrev rI:=nt Kd.i64
abbrev rS:=nt (Kd.sl Kd.u64)
abbrev iV (x:Int):Value:=.int .i64 x
abbrev Z:=false
abbrev Y:=true
abbrev nO:Nat→Gh→List aC:=fun _ _=>[]
section
variable {P:Program} {n:Nat} {Q:b7} {E:Env} {H:List aC}
theorem bI {ar:Array Oper} {id:Nat} (B:List Nat) (f:kn) (vf:Gh→List Value) (pr:Nat→Gh→List aC) (Hf:Gh→List aC) (pures:List Nat) {T:qD} (hmix:P.follows .mixedOrders=true) (ht:T.ok P=true)
    (steps:tO (vO P n ar E vf f H pr) (cG pures ar.toList.length))
    (fin:∀ γ,QH Q .normal (Al E ar.toList (vf γ)) (Hf γ))
    (chk:(oz n ar && Ev B ar.toList B && wF f B (cG pures ar.toList.length) && Nat.ble f.np.length ar.toList.length)=true:=by exact kr)
    (hH:Nat.ble f.h H.length=true:=by exact kr)
    (hlen:∀ g,(vf g).length=ar.toList.length:=by exact fun _=>kr)
    (hp:∀ g,pures.map (fun i=>sM T ar (om E ar.toList (vf g) i) i)=pures.map (fun i=>(vf g)[i]?):=by exact fun _=>kr)
    (hk:∀ g,EH vf B g (List.range ar.toList.length)=(List.range ar.toList.length).map (fun j=>(vf g)[j]?):=by exact fun _=>kr)
    (hnp:∀ γ,(cG pures ar.toList.length).all (fun i=>Nat.beq (pr i γ).length (f.np.getD i 0))=true:=by exact fun _=>kr)
    (hpi:∀ γ,(cG pures ar.toList.length).map (fun o=>pr o (yc (sP B o) γ))=(cG pures ar.toList.length).map (fun o=>pr o γ):=by exact fun _=>kr)
    (hpr:∀ γ:Gh,(cG pures ar.toList.length).all (fun i=>((kT f.use i).map (vk H pr γ)).all xP)=true:=by exact fun _=>kr)
    (hHf:∀ γ,pF f H pr (cG pures ar.toList.length) γ=Hf γ:=by exact fun _=>kr):WH P n (.region id ar true) Q E H :=
  Du B f vf pr Hf pures hmix ht chk hH hlen hp hk hnp hpi hpr hHf steps fin
end
end Gw
