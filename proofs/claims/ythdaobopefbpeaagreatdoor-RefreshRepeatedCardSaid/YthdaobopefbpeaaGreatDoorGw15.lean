/- Short names for what contracts name most. -/
import Derived.Test.YthdaobopefbpeaaGreatDoorGw14
namespace Gw
open Go Gv
abbrev Ku:=Kd.u64
abbrev Ki:=Kd.i64
abbrev Ks:=Kd.sl Kd.u64
abbrev rU:=q8 Kd.u64
abbrev rI:=q8 Kd.i64
abbrev rS:=q8 (Kd.sl Kd.u64)
abbrev iV (x:Int):Value:=.int .i64 x
abbrev Z:=false
abbrev Y:=true
abbrev nO:Nat→Gh→List aO:=fun _ _=>[]
section
variable {P:Program} {n:Nat} {Q:dj} {E:Env} {H:List aO}
theorem cz {ar:Array Oper} {id:Nat} (B:List Nat) (f:nS) (vf:Gh→List Value) (pr:Nat→Gh→List aO) (Hf:Gh→List aO) (pures:List Nat) {T:vJ} (hmix:P.follows .mixedOrders=true) (ht:T.ok P=true)
    (steps:yO (Bs P n ar E vf f H pr) (dR pures ar.toList.length))
    (fin:∀ γ,QH Q .normal (Hr E ar.toList (vf γ)) (Hf γ))
    (chk:(sx n ar && MR B ar.toList B && Cy f B (dR pures ar.toList.length) && Nat.ble f.np.length ar.toList.length)=true:=by exact kr)
    (hH:Nat.ble f.h H.length=true:=by exact kr)
    (hlen:∀ g,(vf g).length=ar.toList.length:=by exact fun _=>kr)
    (hp:∀ g,pures.map (fun i=>xJ T ar (rX E ar.toList (vf g) i) i)=pures.map (fun i=>(vf g)[i]?):=by exact fun _=>kr)
    (hk:∀ g,Na vf B g (List.range ar.toList.length)=(List.range ar.toList.length).map (fun j=>(vf g)[j]?):=by exact fun _=>kr)
    (hnp:∀ γ,(dR pures ar.toList.length).all (fun i=>Nat.beq (pr i γ).length (f.np.getD i 0))=true:=by exact fun _=>kr)
    (hpi:∀ γ,(dR pures ar.toList.length).map (fun o=>pr o (Ef (xP B o) γ))=(dR pures ar.toList.length).map (fun o=>pr o γ):=by exact fun _=>kr)
    (hpr:∀ γ:Gh,(dR pures ar.toList.length).all (fun i=>((oy f.use i).map (AK H pr γ)).all DU)=true:=by exact fun _=>kr)
    (hHf:∀ γ,um f H pr (dR pures ar.toList.length) γ=Hf γ:=by exact fun _=>kr):WH P n (.region id ar true) Q E H :=
  LN B f vf pr Hf pures hmix ht chk hH hlen hp hk hnp hpi hpr hHf steps fin
end
end Gw
