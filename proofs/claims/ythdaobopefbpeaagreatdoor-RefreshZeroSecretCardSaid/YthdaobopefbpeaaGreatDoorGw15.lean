/- Short names for what contracts name most. -/
import Derived.Test.YthdaobopefbpeaaGreatDoorGw14
namespace Gw
open Go Gv
abbrev Ku:=Kd.u64
abbrev Ki:=Kd.i64
abbrev Ks:=Kd.sl Kd.u64
abbrev rU:=ry Kd.u64
abbrev rI:=ry Kd.i64
abbrev rS:=ry (Kd.sl Kd.u64)
abbrev iV (x:Int):Value:=.int .i64 x
abbrev Z:=false
abbrev Y:=true
abbrev nO:Nat→Gh→List aN:=fun _ _=>[]
section
variable {P:Program} {n:Nat} {Q:dc} {E:Env} {H:List aN}
theorem cG {ar:Array Oper} {id:Nat} (B:List Nat) (f:nw) (vf:Gh→List Value) (pr:Nat→Gh→List aN) (Hf:Gh→List aN) (pures:List Nat) {T:u5} (hmix:P.follows .mixedOrders=true) (ht:T.ok P=true)
    (steps:yl (AL P n ar E vf f H pr) (dQ pures ar.toList.length))
    (fin:∀ γ,QH Q .normal (GF E ar.toList (vf γ)) (Hf γ))
    (chk:(sx n ar && L2 B ar.toList B && BS f B (dQ pures ar.toList.length) && Nat.ble f.np.length ar.toList.length)=true:=by exact kr)
    (hH:Nat.ble f.h H.length=true:=by exact kr)
    (hlen:∀ g,(vf g).length=ar.toList.length:=by exact fun _=>kr)
    (hp:∀ g,pures.map (fun i=>xc T ar (rZ E ar.toList (vf g) i) i)=pures.map (fun i=>(vf g)[i]?):=by exact fun _=>kr)
    (hk:∀ g,Mj vf B g (List.range ar.toList.length)=(List.range ar.toList.length).map (fun j=>(vf g)[j]?):=by exact fun _=>kr)
    (hnp:∀ γ,(dQ pures ar.toList.length).all (fun i=>Nat.beq (pr i γ).length (f.np.getD i 0))=true:=by exact fun _=>kr)
    (hpi:∀ γ,(dQ pures ar.toList.length).map (fun o=>pr o (Dk (xi B o) γ))=(dQ pures ar.toList.length).map (fun o=>pr o γ):=by exact fun _=>kr)
    (hpr:∀ γ:Gh,(dQ pures ar.toList.length).all (fun i=>((n2 f.use i).map (Aa H pr γ)).all C0)=true:=by exact fun _=>kr)
    (hHf:∀ γ,tR f H pr (dQ pures ar.toList.length) γ=Hf γ:=by exact fun _=>kr):WH P n (.region id ar true) Q E H :=
  KV B f vf pr Hf pures hmix ht chk hH hlen hp hk hnp hpi hpr hHf steps fin
end
end Gw
