/- Short names for what contracts name most. -/
import Derived.Test.YtpjenmchinpgaaaGreatDoorGw14
namespace Gw
open Go Gv
abbrev Ku:=Kd.u64
abbrev Ki:=Kd.i64
abbrev Ks:=Kd.sl Kd.u64
abbrev rU:=rm Kd.u64
abbrev rI:=rm Kd.i64
abbrev rS:=rm (Kd.sl Kd.u64)
abbrev iV(x:Int):Value:=.int .i64 x
abbrev Z:=false
abbrev Y:=true
abbrev nO:Nat→Gh→List aG:=λ_ _=>[]
section
variable {P:Program}{n:Nat}{Q:cQ}{E:Env}{H:List aG}
theorem cG{ar:Array Oper}{id:Nat}(B:List Nat)(f:od)(vf:Gh→List Value)(pr:Nat→Gh→List aG)(Hf:Gh→List aG)(pures:List Nat){T:wc}(hmix:P.follows .mixedOrders=true)(ht:T.ok P=true)
  (steps:zN (Ce P n ar E vf f H pr) (dX pures ar.toList.length))
  (fin:∀γ,QH Q .normal (Im E ar.toList (vf γ)) (Hf γ))
  (chk:(s9 n ar&&NF B ar.toList B&&Dm f B (dX pures ar.toList.length)&&Nat.ble f.np.length ar.toList.length)=true:=by exact kr)
  (hH:Nat.ble f.h H.length=true:=by exact kr)
  (hlen:∀g,(vf g).length=ar.toList.length:=by exact λ_=>kr)
  (hp:∀g,pures.map (λi=>yz T ar (sJ E ar.toList (vf g) i) i)=pures.map (λi=>(vf g)[i]?):=by exact λ_=>kr)
  (hk:∀g,NU vf B g (List.range ar.toList.length)=(List.range ar.toList.length).map (λj=>(vf g)[j]?):=by exact λ_=>kr)
  (hnp:∀γ,(dX pures ar.toList.length).all (λi=>Nat.beq (pr i γ).length (f.np.getD i 0))=true:=by exact λ_=>kr)
  (hpi:∀γ,(dX pures ar.toList.length).map (λo=>pr o (EY (yH B o) γ))=(dX pures ar.toList.length).map (λo=>pr o γ):=by exact λ_=>kr)
  (hpr:∀γ:Gh,(dX pures ar.toList.length).all (λi=>((oW f.use i).map (BJ H pr γ)).all EI)=true:=by exact λ_=>kr)
  (hHf:∀γ,uP f H pr (dX pures ar.toList.length) γ=Hf γ:=by exact λ_=>kr):WH P n (.region id ar true) Q E H :=
 My B f vf pr Hf pures hmix ht chk hH hlen hp hk hnp hpi hpr hHf steps fin
end
end Gw
