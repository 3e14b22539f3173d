/- Short names for what contracts name most. -/
import Derived.Test.YtkmbblnepjofaaaGreatDoorGw14
namespace Gw
open Go Gv
abbrev Ku:=Kd.u64
abbrev Ki:=Kd.i64
abbrev Ks:=Kd.sl Kd.u64
abbrev rU:=ry Kd.u64
abbrev rI:=ry Kd.i64
abbrev rS:=ry (Kd.sl Kd.u64)
abbrev iV (x:Int):Value:=.int .i64 x
abbrev Z:=false
abbrev Y:=true
abbrev nO:Nat→Gh→List aA:=fun _ _=>[]
section
variable {P:Program} {n:Nat} {Q:cI} {E:Env} {H:List aA}
theorem cU {ar:Array Oper} {id:Nat} (B:List Nat) (f:lQ) (vf:Gh→List Value) (pr:Nat→Gh→List aA) (Hf:Gh→List aA) (pures:List Nat) {T:sv} (hmix:P.follows .mixedOrders=true) (ht:T.ok P=true)
    (steps:vk (xu P n ar E vf f H pr) (dh pures ar.toList.length))
    (fin:∀ γ,QH Q .normal (CU E ar.toList (vf γ)) (Hf γ))
    (chk:(qg n ar && HT B ar.toList B && yD f B (dh pures ar.toList.length) && Nat.ble f.np.length ar.toList.length)=true:=by exact kr)
    (hH:Nat.ble f.h H.length=true:=by exact kr)
    (hlen:∀ g,(vf g).length=ar.toList.length:=by exact fun _=>kr)
    (hp:∀ g,pures.map (fun i=>uq T ar (p5 E ar.toList (vf g) i) i)=pures.map (fun i=>(vf g)[i]?):=by exact fun _=>kr)
    (hk:∀ g,H9 vf B g (List.range ar.toList.length)=(List.range ar.toList.length).map (fun j=>(vf g)[j]?):=by exact fun _=>kr)
    (hnp:∀ γ,(dh pures ar.toList.length).all (fun i=>Nat.beq (pr i γ).length (f.np.getD i 0))=true:=by exact fun _=>kr)
    (hpi:∀ γ,(dh pures ar.toList.length).map (fun o=>pr o (Aj (uy B o) γ))=(dh pures ar.toList.length).map (fun o=>pr o γ):=by exact fun _=>kr)
    (hpr:∀ γ:Gh,(dh pures ar.toList.length).all (fun i=>((mu f.use i).map (wO H pr γ)).all zX)=true:=by exact fun _=>kr)
    (hHf:∀ γ,re f H pr (dh pures ar.toList.length) γ=Hf γ:=by exact fun _=>kr):WH P n (.region id ar true) Q E H :=
  GO B f vf pr Hf pures hmix ht chk hH hlen hp hk hnp hpi hpr hHf steps fin
end
end Gw
