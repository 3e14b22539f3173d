/- Short names for what contracts name most. -/
import Derived.Test.YtpjenmchinpgaaaGreatDoorGw14
namespace Gw
open Go Gv
abbrev Ku:=Kd.u64
abbrev Ki:=Kd.i64
abbrev Ks:=Kd.sl Kd.u64
abbrev rU:=rx Kd.u64
abbrev rI:=rx Kd.i64
abbrev rS:=rx (Kd.sl Kd.u64)
abbrev iV (x:Int):Value:=.int .i64 x
abbrev Z:=false
abbrev Y:=true
abbrev nO:Nat→Gh→List aE:=fun _ _=>[]
section
variable {P:Program} {n:Nat} {Q:cM} {E:Env} {H:List aE}
theorem cK {ar:Array Oper} {id:Nat} (B:List Nat) (f:nC) (vf:Gh→List Value) (pr:Nat→Gh→List aE) (Hf:Gh→List aE) (pures:List Nat) {T:vz} (hmix:P.follows .mixedOrders=true) (ht:T.ok P=true)
    (steps:y6 (BN P n ar E vf f H pr) (dS pures ar.toList.length))
    (fin:∀ γ,QH Q .normal (Hz E ar.toList (vf γ)) (Hf γ))
    (chk:(tq n ar && MQ B ar.toList B && CR f B (dS pures ar.toList.length) && Nat.ble f.np.length ar.toList.length)=true:=by exact kr)
    (hH:Nat.ble f.h H.length=true:=by exact kr)
    (hlen:∀ g,(vf g).length=ar.toList.length:=by exact fun _=>kr)
    (hp:∀ g,pures.map (fun i=>xS T ar (sQ E ar.toList (vf g) i) i)=pures.map (fun i=>(vf g)[i]?):=by exact fun _=>kr)
    (hk:∀ g,M7 vf B g (List.range ar.toList.length)=(List.range ar.toList.length).map (fun j=>(vf g)[j]?):=by exact fun _=>kr)
    (hnp:∀ γ,(dS pures ar.toList.length).all (fun i=>Nat.beq (pr i γ).length (f.np.getD i 0))=true:=by exact fun _=>kr)
    (hpi:∀ γ,(dS pures ar.toList.length).map (fun o=>pr o (Ef (xZ B o) γ))=(dS pures ar.toList.length).map (fun o=>pr o γ):=by exact fun _=>kr)
    (hpr:∀ γ:Gh,(dS pures ar.toList.length).all (fun i=>((oM f.use i).map (A9 H pr γ)).all DY)=true:=by exact fun _=>kr)
    (hHf:∀ γ,ux f H pr (dS pures ar.toList.length) γ=Hf γ:=by exact fun _=>kr):WH P n (.region id ar true) Q E H :=
  LH B f vf pr Hf pures hmix ht chk hH hlen hp hk hnp hpi hpr hHf steps fin
end
end Gw
