/- Short names for what contracts name most. -/
import Derived.Test.YtkmbblnepjofaaaGreatDoorGw14
namespace Gw
open Go Gv
abbrev Ku:=Kd.u64
abbrev Ki:=Kd.i64
abbrev Ks:=Kd.sl Kd.u64
abbrev rU:=qn Kd.u64
abbrev rI:=qn Kd.i64
abbrev rS:=qn (Kd.sl Kd.u64)
abbrev iV (x:Int):Value:=.int .i64 x
abbrev Z:=false
abbrev Y:=true
abbrev nO:Nat→Gh→List aD:=fun _ _=>[]
section
variable {P:Program} {n:Nat} {Q:c9} {E:Env} {H:List aD}
theorem cP {ar:Array Oper} {id:Nat} (B:List Nat) (f:nf) (vf:Gh→List Value) (pr:Nat→Gh→List aD) (Hf:Gh→List aD) (pures:List Nat) {T:tK} (hmix:P.follows .mixedOrders=true) (ht:T.ok P=true)
    (steps:wN (yZ P n ar E vf f H pr) (dJ pures ar.toList.length))
    (fin:∀ γ,QH Q .normal (ES E ar.toList (vf γ)) (Hf γ))
    (chk:(rx n ar && JW B ar.toList B && Am f B (dJ pures ar.toList.length) && Nat.ble f.np.length ar.toList.length)=true:=by exact kr)
    (hH:Nat.ble f.h H.length=true:=by exact kr)
    (hlen:∀ g,(vf g).length=ar.toList.length:=by exact fun _=>kr)
    (hp:∀ g,pures.map (fun i=>vE T ar (rh E ar.toList (vf g) i) i)=pures.map (fun i=>(vf g)[i]?):=by exact fun _=>kr)
    (hk:∀ g,Ka vf B g (List.range ar.toList.length)=(List.range ar.toList.length).map (fun j=>(vf g)[j]?):=by exact fun _=>kr)
    (hnp:∀ γ,(dJ pures ar.toList.length).all (fun i=>Nat.beq (pr i γ).length (f.np.getD i 0))=true:=by exact fun _=>kr)
    (hpi:∀ γ,(dJ pures ar.toList.length).map (fun o=>pr o (B3 (vL B o) γ))=(dJ pures ar.toList.length).map (fun o=>pr o γ):=by exact fun _=>kr)
    (hpr:∀ γ:Gh,(dJ pures ar.toList.length).all (fun i=>((nS f.use i).map (yx H pr γ)).all BJ)=true:=by exact fun _=>kr)
    (hHf:∀ γ,sG f H pr (dJ pures ar.toList.length) γ=Hf γ:=by exact fun _=>kr):WH P n (.region id ar true) Q E H :=
  IQ B f vf pr Hf pures hmix ht chk hH hlen hp hk hnp hpi hpr hHf steps fin
end
end Gw
