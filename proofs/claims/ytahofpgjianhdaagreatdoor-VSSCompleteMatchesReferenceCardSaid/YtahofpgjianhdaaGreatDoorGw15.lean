/- Short names for what contracts name most. -/
import Derived.Test.YtahofpgjianhdaaGreatDoorGw14
namespace Gw
open Go Gv
abbrev Ku:=Kd.u64
abbrev Ki:=Kd.i64
abbrev Ks:=Kd.sl Kd.u64
abbrev rU:=s9 Kd.u64
abbrev rI:=s9 Kd.i64
abbrev rS:=s9 (Kd.sl Kd.u64)
abbrev iV (x:Int):Value:=.int .i64 x
abbrev Z:=false
abbrev Y:=true
abbrev nO:Nat→Gh→List aR:=fun _ _=>[]
section
variable {P:Program} {n:Nat} {Q:da} {E:Env} {H:List aR}
theorem cC {ar:Array Oper} {id:Nat} (B:List Nat) (f:na) (vf:Gh→List Value) (pr:Nat→Gh→List aR) (Hf:Gh→List aR) (pures:List Nat) {T:s7} (hmix:P.follows .mixedOrders=true) (ht:T.ok P=true)
    (steps:vO (yg P n ar E vf f H pr) (dM pures ar.toList.length))
    (fin:∀ γ,QH Q .normal (DL E ar.toList (vf γ)) (Hf γ))
    (chk:(qV n ar && Ih B ar.toList B && zo f B (dM pures ar.toList.length) && Nat.ble f.np.length ar.toList.length)=true:=by exact kr)
    (hH:Nat.ble f.h H.length=true:=by exact kr)
    (hlen:∀ g,(vf g).length=ar.toList.length:=by exact fun _=>kr)
    (hp:∀ g,pures.map (fun i=>u4 T ar (qC E ar.toList (vf g) i) i)=pures.map (fun i=>(vf g)[i]?):=by exact fun _=>kr)
    (hk:∀ g,Ix vf B g (List.range ar.toList.length)=(List.range ar.toList.length).map (fun j=>(vf g)[j]?):=by exact fun _=>kr)
    (hnp:∀ γ,(dM pures ar.toList.length).all (fun i=>Nat.beq (pr i γ).length (f.np.getD i 0))=true:=by exact fun _=>kr)
    (hpi:∀ γ,(dM pures ar.toList.length).map (fun o=>pr o (A7 (u9 B o) γ))=(dM pures ar.toList.length).map (fun o=>pr o γ):=by exact fun _=>kr)
    (hpr:∀ γ:Gh,(dM pures ar.toList.length).all (fun i=>((nQ f.use i).map (xB H pr γ)).all AQ)=true:=by exact fun _=>kr)
    (hHf:∀ γ,se f H pr (dM pures ar.toList.length) γ=Hf γ:=by exact fun _=>kr):WH P n (.region id ar true) Q E H :=
  Hs B f vf pr Hf pures hmix ht chk hH hlen hp hk hnp hpi hpr hHf steps fin
end
end Gw
