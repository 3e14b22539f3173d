/- Short names for what contracts name most. -/
import Derived.Test.YtpjenmchinpgaaaGreatDoorGw14
namespace Gw
open Go Gv
abbrev Ku:=Kd.u64
abbrev Ki:=Kd.i64
abbrev Ks:=Kd.sl Kd.u64
abbrev rU:=ry Kd.u64
abbrev rI:=ry Kd.i64
abbrev rS:=ry (Kd.sl Kd.u64)
abbrev iV (x:Int):Value:=.int .i64 x
abbrev Z:=false
abbrev Y:=true
abbrev nO:Nat→Gh→List aF:=fun _ _=>[]
section
variable {P:Program} {n:Nat} {Q:cM} {E:Env} {H:List aF}
theorem cJ {ar:Array Oper} {id:Nat} (B:List Nat) (f:nA) (vf:Gh→List Value) (pr:Nat→Gh→List aF) (Hf:Gh→List aF) (pures:List Nat) {T:vA} (hmix:P.follows .mixedOrders=true) (ht:T.ok P=true)
    (steps:y7 (BQ P n ar E vf f H pr) (dR pures ar.toList.length))
    (fin:∀ γ,QH Q .normal (HF E ar.toList (vf γ)) (Hf γ))
    (chk:(tn n ar && MU B ar.toList B && CR f B (dR pures ar.toList.length) && Nat.ble f.np.length ar.toList.length)=true:=by exact kr)
    (hH:Nat.ble f.h H.length=true:=by exact kr)
    (hlen:∀ g,(vf g).length=ar.toList.length:=by exact fun _=>kr)
    (hp:∀ g,pures.map (fun i=>xT T ar (sQ E ar.toList (vf g) i) i)=pures.map (fun i=>(vf g)[i]?):=by exact fun _=>kr)
    (hk:∀ g,Nb vf B g (List.range ar.toList.length)=(List.range ar.toList.length).map (fun j=>(vf g)[j]?):=by exact fun _=>kr)
    (hnp:∀ γ,(dR pures ar.toList.length).all (fun i=>Nat.beq (pr i γ).length (f.np.getD i 0))=true:=by exact fun _=>kr)
    (hpi:∀ γ,(dR pures ar.toList.length).map (fun o=>pr o (Ek (xZ B o) γ))=(dR pures ar.toList.length).map (fun o=>pr o γ):=by exact fun _=>kr)
    (hpr:∀ γ:Gh,(dR pures ar.toList.length).all (fun i=>((oj f.use i).map (A8 H pr γ)).all D3)=true:=by exact fun _=>kr)
    (hHf:∀ γ,uw f H pr (dR pures ar.toList.length) γ=Hf γ:=by exact fun _=>kr):WH P n (.region id ar true) Q E H :=
  LJ B f vf pr Hf pures hmix ht chk hH hlen hp hk hnp hpi hpr hHf steps fin
end
end Gw
