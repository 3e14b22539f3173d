/- Short names for what contracts name most. -/
import Derived.Test.YtahofpgjianhdaaGreatDoorGw14
namespace Gw
open Go Gv
abbrev Ku:=Kd.u64
abbrev Ki:=Kd.i64
abbrev Ks:=Kd.sl Kd.u64
abbrev rU:=qL Kd.u64
abbrev rI:=qL Kd.i64
abbrev rS:=qL (Kd.sl Kd.u64)
abbrev iV (x:Int):Value:=.int .i64 x
abbrev Z:=false
abbrev Y:=true
abbrev nO:Nat→Gh→List aS:=fun _ _=>[]
section
variable {P:Program} {n:Nat} {Q:db} {E:Env} {H:List aS}
theorem cA {ar:Array Oper} {id:Nat} (B:List Nat) (f:mS) (vf:Gh→List Value) (pr:Nat→Gh→List aS) (Hf:Gh→List aS) (pures:List Nat) {T:tG} (hmix:P.follows .mixedOrders=true) (ht:T.ok P=true)
    (steps:wl (yI P n ar E vf f H pr) (dM pures ar.toList.length))
    (fin:∀ γ,QH Q .normal (Ej E ar.toList (vf γ)) (Hf γ))
    (chk:(ru n ar && IR B ar.toList B && zV f B (dM pures ar.toList.length) && Nat.ble f.np.length ar.toList.length)=true:=by exact kr)
    (hH:Nat.ble f.h H.length=true:=by exact kr)
    (hlen:∀ g,(vf g).length=ar.toList.length:=by exact fun _=>kr)
    (hp:∀ g,pures.map (fun i=>vr T ar (qY E ar.toList (vf g) i) i)=pures.map (fun i=>(vf g)[i]?):=by exact fun _=>kr)
    (hk:∀ g,Jh vf B g (List.range ar.toList.length)=(List.range ar.toList.length).map (fun j=>(vf g)[j]?):=by exact fun _=>kr)
    (hnp:∀ γ,(dM pures ar.toList.length).all (fun i=>Nat.beq (pr i γ).length (f.np.getD i 0))=true:=by exact fun _=>kr)
    (hpi:∀ γ,(dM pures ar.toList.length).map (fun o=>pr o (BA (vw B o) γ))=(dM pures ar.toList.length).map (fun o=>pr o γ):=by exact fun _=>kr)
    (hpr:∀ γ:Gh,(dM pures ar.toList.length).all (fun i=>((nA f.use i).map (xX H pr γ)).all Bh)=true:=by exact fun _=>kr)
    (hHf:∀ γ,sE f H pr (dM pures ar.toList.length) γ=Hf γ:=by exact fun _=>kr):WH P n (.region id ar true) Q E H :=
  H2 B f vf pr Hf pures hmix ht chk hH hlen hp hk hnp hpi hpr hHf steps fin
end
end Gw
