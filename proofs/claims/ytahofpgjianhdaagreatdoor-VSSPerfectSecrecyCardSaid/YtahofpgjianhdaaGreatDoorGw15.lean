/- Short names for what contracts name most. -/
import Derived.Test.YtahofpgjianhdaaGreatDoorGw14
namespace Gw
open Go Gv
abbrev Ku:=Kd.u64
abbrev Ki:=Kd.i64
abbrev Ks:=Kd.sl Kd.u64
abbrev rU:=rdV Kd.u64
abbrev rI:=rdV Kd.i64
abbrev rS:=rdV (Kd.sl Kd.u64)
abbrev iV (x:Int):Value:=.int .i64 x
abbrev Z:=false
abbrev Y:=true
abbrev nO:Nat→Gh→List Asrt:=fun _ _=>[]
section
variable {P:Program} {n:Nat} {Q:Post} {E:Env} {H:List Asrt}
theorem h_fl {ar:Array Oper} {id:Nat} (B:List Nat) (f:Flow) (vf:Gh→List Value) (pr:Nat→Gh→List Asrt) (Hf:Gh→List Asrt) (pures:List Nat) {T:Tab} (hmix:P.follows .mixedOrders=true) (ht:T.ok P=true)
    (steps:AllL (FlowAt P n ar E vf f H pr) (nonpure pures ar.toList.length))
    (fin:∀ γ,QH Q .normal (allE E ar.toList (vf γ)) (Hf γ))
    (chk:(drawOK n ar && mgo B ar.toList B && flowB f B (nonpure pures ar.toList.length) && Nat.ble f.np.length ar.toList.length)=true:=by exact kr)
    (hH:Nat.ble f.h H.length=true:=by exact kr)
    (hlen:∀ g,(vf g).length=ar.toList.length:=by exact fun _=>kr)
    (hp:∀ g,pures.map (fun i=>pureV T ar (ancE E ar.toList (vf g) i) i)=pures.map (fun i=>(vf g)[i]?):=by exact fun _=>kr)
    (hk:∀ g,dgo vf B g (List.range ar.toList.length)=(List.range ar.toList.length).map (fun j=>(vf g)[j]?):=by exact fun _=>kr)
    (hnp:∀ γ,(nonpure pures ar.toList.length).all (fun i=>Nat.beq (pr i γ).length (f.np.getD i 0))=true:=by exact fun _=>kr)
    (hpi:∀ γ,(nonpure pures ar.toList.length).map (fun o=>pr o (resM (selfM B o) γ))=(nonpure pures ar.toList.length).map (fun o=>pr o γ):=by exact fun _=>kr)
    (hpr:∀ γ:Gh,(nonpure pures ar.toList.length).all (fun i=>((lkp f.use i).map (itm H pr γ)).all isPr)=true:=by exact fun _=>kr)
    (hHf:∀ γ,heapF f H pr (nonpure pures ar.toList.length) γ=Hf γ:=by exact fun _=>kr):WH P n (.region id ar true) Q E H :=
  h_flow B f vf pr Hf pures hmix ht chk hH hlen hp hk hnp hpi hpr hHf steps fin
theorem h_fm {ar:Array Oper} {id:Nat} (B:List Nat) (f:Flow) (vf:Gh→List Value) (pr:Nat→Gh→List Asrt) (pures:List Nat) {T:Tab} (hmix:P.follows .mixedOrders=true) (ht:T.ok P=true)
    (steps:AllL (FlowAt P n ar E vf f H pr) (nonpure pures ar.toList.length))
    (fin:∀ γ,QH Q .normal (allE E ar.toList (vf γ)) (heapF f H pr (nonpure pures ar.toList.length) γ))
    (chk:(drawOK n ar && mgo B ar.toList B && flowB f B (nonpure pures ar.toList.length) && Nat.ble f.np.length ar.toList.length)=true:=by exact kr)
    (hH:Nat.ble f.h H.length=true:=by exact kr)
    (hlen:∀ g,(vf g).length=ar.toList.length:=by exact fun _=>kr)
    (hp:∀ g,pures.map (fun i=>pureV T ar (ancE E ar.toList (vf g) i) i)=pures.map (fun i=>(vf g)[i]?):=by exact fun _=>kr)
    (hk:∀ g,dgo vf B g (List.range ar.toList.length)=(List.range ar.toList.length).map (fun j=>(vf g)[j]?):=by exact fun _=>kr)
    (hnp:∀ γ,(nonpure pures ar.toList.length).all (fun i=>Nat.beq (pr i γ).length (f.np.getD i 0))=true:=by exact fun _=>kr)
    (hpi:∀ γ,(nonpure pures ar.toList.length).map (fun o=>pr o (resM (selfM B o) γ))=(nonpure pures ar.toList.length).map (fun o=>pr o γ):=by exact fun _=>kr)
    (hpr:∀ γ:Gh,(nonpure pures ar.toList.length).all (fun i=>((lkp f.use i).map (itm H pr γ)).all isPr)=true:=by exact fun _=>kr):WH P n (.region id ar true) Q E H :=
  h_flow B f vf pr (fun γ=>heapF f H pr (nonpure pures ar.toList.length) γ) pures hmix ht chk hH hlen hp hk hnp hpi hpr (fun _=>rfl) steps fin
end
end Gw
