/- Plain functions: what the Go functions compute, over lists and numbers, in Option (none: a run that is not followed). No Go in it. Printed by a program of this claim. -/
import Derived.Test.YtahofpgjianhdaaGreatDoorWd
set_option linter.unusedVariables false
namespace Pu
open Gw
structure bi where
  P:Nat
  N:Int
  T:Int
structure aT where
  Round:Int
  From:Int
  To:Int
  At:Int
  Kind:Int
  K:Nat
  Of:Int
  aX:Int
structure ab where
  S:bi
  ah:List Int
  aa:List aT
  av:List (List Nat)
structure cK where
  W:ab
  Q:List (List (List Nat))
structure af where
  Round:Int
  From:Int
  j5:List Nat
structure bh where
  j0:List Nat
  zat:Int
structure aB where
  zw:ab
  ai:Int
  am:List (List af)
  ak:List bh
structure ao where
  S:List (List (List (List Nat)))
  Rows:List (List (List (List Nat)))
  az:List (List (List Nat))
structure ap where
  zn:aB
  zs:bi
  zq:List (List (List Nat))
  zd:ao
structure aC where
  zn:aB
  zp:Nat
  zd:ao
  bg:List (List Bool)
  bX:List (List Bool)
  c8:List (List (List (List Nat)))
structure bG where
  e0:Int
  e1:Int
structure mN where
  zl:List Nat
structure aW where
  Rows:List (List (List (List Nat)))
  bd:List Bool
structure aA where
  j5:List Nat
  At:Int
structure au where
  zw:ab
  ai:Int
  am:List (List af)
  ak:List aA
structure iY where
  zl:List Nat
def oc  : Option (ab × (List (List (List Nat)))) :=
  some ((⟨(⟨31,((4:Nat):Int),((1:Nat):Int)⟩:bi),([]:List Int),([]:List aT),([([7]:List Nat),([]:List Nat),([]:List Nat),([]:List Nat)]:List (List Nat))⟩:ab),([([([5,3]:List Nat)]:List (List Nat)),([]:List (List Nat)),([]:List (List Nat)),([]:List (List Nat))]:List (List (List Nat))))
def te (a:Nat) (k1:Nat):Option (Out Unit Int) :=
  ([5,7,13,17,19,31,61]:List Int)[k1]? >>= fun x1 =>
  zx 1 x1 >>= fun x2 =>
  some (yz x2 1) >>= fun x3 =>
  bif ((a:Nat):Int) == ((x3:Nat):Int) then
    some (.fin x1)
  else
    some (.go ())
def rv (a:Nat):Option Int :=
  nQ 7 >>= fun u1 =>
  oe (fun k1 (st:Unit)=>te a k1) (7 - 0) 0 () >>= fun r1=>kN r1 (fun x=>some x) fun _ =>
  some ((0:Nat):Int)
def ny (a:Nat):Option Bool :=
  rv a >>= fun r1 =>
  some (r1 != (0:Int))
def nN (a:bi):Option Bool :=
  ny a.P >>= fun r1 =>
  bif r1 then
    bif decide (a.N ≥ (4:Int)) then
      bif decide (a.N≤(13:Int)) then
        some (mu a.N) >>= fun x1 =>
        bif decide (((x1:Nat):Int) < ((a.P:Nat):Int)) then
          bif decide (a.T ≥ (1:Int)) then
            bif decide (a.T < a.N) then
              lU (3:Int) a.T >>= fun x2 =>
              some (decide (x2 < a.N))
            else
              some false
          else
            some false
        else
          some false
      else
        some false
    else
      some false
  else
    some false
def iT (a:bi) (b:List Int) (k1:Nat):Option (Out Unit Bool) :=
  b[k1]? >>= fun x2 =>
  bif decide (x2 < (1:Int)) then
    some (.fin false)
  else
    bif decide (x2 > a.N) then
      some (.fin false)
    else
      bif decide (((k1:Nat):Int) > (0:Int)) then
        gJ ((k1:Nat):Int) (1:Int) >>= fun x3 =>
        dU b x3 >>= fun x4 =>
        bif decide (x4 ≥ x2) then
          some (.fin false)
        else
          some (.go ())
      else
        some (.go ())
def ir (a:bi) (b:List Int):Option Bool :=
  (
    nN a >>= fun r1 =>
    bif !r1 then
      some true
    else
      some (decide (((b.length:Nat):Int) > a.T))
  ) >>= fun x1 =>
  bif x1 then
    some false
  else
    oe (fun k1 (st:Unit)=>iT a b k1) (b.length - 0) 0 () >>= fun r2=>kN r2 (fun x=>some x) fun _ =>
    some true
def qm (a:bi) (b:aT):Option Bool :=
  (
    bif b.Kind == (3:Int) then
      some ((1:Nat):Int)
    else
      some ((0:Nat):Int)
  ) >>= fun x1 =>
  bif decide (b.Round ≥ (0:Int)) then
    bif decide (b.At ≥ (0:Int)) then
      bif decide (b.aX ≥ (0:Int)) then
        bif decide (b.From ≥ (1:Int)) then
          bif decide (b.From≤a.N) then
            bif decide (b.To ≥ (0:Int)) then
              bif decide (b.To≤a.N) then
                bif decide (b.Kind ≥ (1:Int)) then
                  bif decide (b.Kind≤(4:Int)) then
                    bif decide (b.Of ≥ x1) then
                      some (decide (b.Of≤a.N))
                    else
                      some false
                  else
                    some false
                else
                  some false
              else
                some false
            else
              some false
          else
            some false
        else
          some false
      else
        some false
    else
      some false
  else
    some false
def jt (a:aT) (b:ab):Option Bool :=
  qm b.S a >>= fun r1 =>
  some (!r1)
def bM (a:List aT) (b:ab) (k1:Nat):Option (Out Unit Int) :=
  a[k1]? >>= fun x1 =>
  jt x1 b >>= fun r2 =>
  bif r2 then
    some (.fin ((k1:Nat):Int))
  else
    some (.go ())
def bT (a:List aT) (b:ab):Option Int :=
  oe (fun k1 (st:Unit)=>bM a b k1) (a.length - 0) 0 () >>= fun r1=>kN r1 (fun x=>some x) fun _ =>
  some (-1)
def bq (a:List aT) (b:ab):Option Bool :=
  bT a b >>= fun r1 =>
  some (decide (r1 ≥ (0:Int)))
def iU (a:Nat) (b:ab):Option Bool :=
  some (decide (((a:Nat):Int) ≥ ((b.S.P:Nat):Int)))
def ce (a:List Nat) (b:ab) (k1:Nat):Option (Out Unit Int) :=
  a[k1]? >>= fun x1 =>
  iU x1 b >>= fun r2 =>
  bif r2 then
    some (.fin ((k1:Nat):Int))
  else
    some (.go ())
def cy (a:List Nat) (b:ab):Option Int :=
  oe (fun k1 (st:Unit)=>ce a b k1) (a.length - 0) 0 () >>= fun r1=>kN r1 (fun x=>some x) fun _ =>
  some (-1)
def bF (a:List Nat) (b:ab):Option Bool :=
  cy a b >>= fun r1 =>
  some (decide (r1 ≥ (0:Int)))
def ju (a:List Nat) (b:ab):Option Bool :=
  bF a b >>= fun r1 =>
  some r1
def cc (a:List (List Nat)) (b:ab) (k1:Nat):Option (Out Unit Int) :=
  a[k1]? >>= fun x1 =>
  ju x1 b >>= fun r2 =>
  bif r2 then
    some (.fin ((k1:Nat):Int))
  else
    some (.go ())
def cx (a:List (List Nat)) (b:ab):Option Int :=
  oe (fun k1 (st:Unit)=>cc a b k1) (a.length - 0) 0 () >>= fun r1=>kN r1 (fun x=>some x) fun _ =>
  some (-1)
def bE (a:List (List Nat)) (b:ab):Option Bool :=
  cx a b >>= fun r1 =>
  some (decide (r1 ≥ (0:Int)))
def ku (a:ab):Option Bool :=
  ir a.S a.ah >>= fun r1 =>
  bif !r1 then
    some false
  else
    bif ((a.av.length:Nat):Int) != a.S.N then
      some false
    else
      bq a.aa a >>= fun r2 =>
      bif r2 then
        some false
      else
        bE a.av a >>= fun r3 =>
        some (!r3)
def vy (a:List Nat):Option bh :=
  some (⟨a,((0:Nat):Int)⟩:bh)
def rB (a:ab) (k1:Nat) (l2:List bh):Option (List bh) :=
  a.av[k1]? >>= fun x2 =>
  vy x2 >>= fun r3 =>
  cW 8 l2 ([r3]:List bh) >>= fun l4 =>
  some l4
def m7 (a:ab):Option (Unit ⊕ aB) :=
  ku a >>= fun r1 =>
  bif !r1 then
    some (.inl ())
  else
    om 24 a.S.N a.S.N ([]:List af) >>= fun l1 =>
    cX (fun k1 (st:(List bh))=>rB a k1 st) (a.av.length - 0) 0 ([]:List bh) >>= fun l3 =>
    some (.inr (⟨a,((0:Nat):Int),l1,l3⟩:aB))
def ct (a:aB):Option ab :=
  some a.zw
def kL (a:aB) (b:Int):Option Nat :=
  gJ b (1:Int) >>= fun x1 =>
  dU a.ak x1 >>= fun x2 =>
  some x1.toNat
def kX (a:bh):Option Int :=
  gJ ((a.j0.length:Nat):Int) a.zat >>= fun x1 =>
  some x1
def mc (a:bh) (b:Int):Option ((List Nat) × Int × Int) :=
  (
    bif decide (b < (0:Int)) then
      some true
    else
      kX a >>= fun r1 =>
      some (decide (b > r1))
  ) >>= fun x1 =>
  bif x1 then
    some (([]:List Nat),((10:Nat):Int),a.zat)
  else
    eJ a.zat b >>= fun x2 =>
    rq a.j0 a.zat x2 >>= fun l1 =>
    some (l1,((0:Nat):Int),x2)
def tM (a:List Nat) (k1:Nat) (l2:List (List Nat)):Option (List (List Nat)) :=
  om 8 ((a.length:Nat):Int) ((a.length:Nat):Int) (0:Nat) >>= fun l4 =>
  l2[k1]? >>= fun x6 =>
  some (l2.set k1 l4) >>= fun l5 =>
  some l5
def tN (a:List Nat) (k2:Nat) (l6:List (List Nat)):Option (List (List Nat)) :=
  a[k2]? >>= fun x8 =>
  l6[0]? >>= fun x9 =>
  l6[k2]? >>= fun x10 =>
  x9[k2]? >>= fun x11 =>
  some (x9.set k2 x8) >>= fun l8 =>
  some (l6.set 0 l8) >>= fun l9 =>
  x10[0]? >>= fun x12 =>
  l9[k2]? >>= fun x13 =>
  x13[0]? >>= fun x14 =>
  some (x13.set 0 x8) >>= fun l10 =>
  some (l9.set k2 l10) >>= fun l11 =>
  some l11
def mB (a:List Nat) (k3:Nat) (l16:List Nat) (l17:List (List Nat)) (x16:Int):Option (Out ((List Nat) × (List (List Nat)) × Int) ((List Nat) × (List (List Nat)))) :=
  bif decide (x16 < ((a.length:Nat):Int)) then
    l17[k3]? >>= fun x17 =>
    dU l17 x16 >>= fun x18 =>
    l16[0]? >>= fun x19 =>
    dU x17 x16 >>= fun x20 =>
    some (x17.set x16.toNat x19) >>= fun l22 =>
    some (l17.set k3 l22) >>= fun l23 =>
    x18[k3]? >>= fun x21 =>
    dU l23 x16 >>= fun x22 =>
    x22[k3]? >>= fun x23 =>
    some (x22.set k3 x19) >>= fun l24 =>
    some (l23.set x16.toNat l24) >>= fun l25 =>
    rq l16 (1:Int) ((l16.length:Nat):Int) >>= fun l26 =>
    eJ x16 (1:Int) >>= fun x24 =>
    some (.go (l26,l25,x24))
  else
    some (.fin (l16,l17))
def mA (a:List Nat) (k3:Nat) (l12:List Nat) (l13:List (List Nat)):Option ((List Nat) × (List (List Nat))) :=
  qJ (fun (st:(List Nat) × (List (List Nat)) × Int)=>mB a k3 st.1 st.2.1 st.2.2) big (l12,l13,((k3:Nat):Int)) >>= fun (l20,l21) =>
  some (l20,l21)
def lb (a:List Nat) (b:List Nat):Option ((List (List Nat)) × Int) :=
  (
    bif ((a.length:Nat):Int) == (0:Int) then
      some true
    else
      gJ ((a.length:Nat):Int) (1:Int) >>= fun x2 =>
      lU ((a.length:Nat):Int) x2 >>= fun x3 =>
      xJ x3 (2:Int) >>= fun x4 =>
      some (((b.length:Nat):Int) != x4)
  ) >>= fun x1 =>
  bif x1 then
    some (([]:List (List Nat)),((1:Nat):Int))
  else
    om 24 ((a.length:Nat):Int) ((a.length:Nat):Int) ([]:List Nat) >>= fun l1 =>
    cX (fun k1 (st:(List (List Nat)))=>tM a k1 st) (l1.length - 0) 0 l1 >>= fun l3 =>
    cX (fun k2 (st:(List (List Nat)))=>tN a k2 st) (a.length - 0) 0 l3 >>= fun l7 =>
    nQ (max 1 (((a.length:Nat):Int)).toNat) >>= fun u1 =>
    cX (fun k3 (st:(List Nat) × (List (List Nat)))=>mA a k3 st.1 st.2) ((max 1 (((a.length:Nat):Int)).toNat) - 1) 1 (b,l7) >>= fun (l14,l15) =>
    some (l15,((0:Nat):Int))
def eD (a:Int) (b:ap) (x1:List (List Nat)) (k1:Nat) (l1:List bh) (l2:List (List (List (List Nat)))):Option ((List bh) × (List (List (List (List Nat))))) :=
  x1[k1]? >>= fun x3 =>
  eJ a (1:Int) >>= fun x4 =>
  kL (⟨b.zn.zw,b.zn.ai,b.zn.am,l1⟩:aB) x4 >>= fun r2 =>
  eJ b.zs.T (1:Int) >>= fun x5 =>
  lU b.zs.T x5 >>= fun x6 =>
  xJ x6 (2:Int) >>= fun x7 =>
  l1[r2]? >>= fun x8 =>
  mc x8 x7 >>= fun r3 =>
  some (l1.set r2 (⟨x8.j0,r3.2.2⟩:bh)) >>= fun l5 =>
  lb x3 r3.1 >>= fun r4 =>
  dU l2 a >>= fun x9 =>
  cW 24 x9 ([r4.1]:List (List (List Nat))) >>= fun l6 =>
  some (l2.set a.toNat l6) >>= fun l7 =>
  some (l5,l7)
def gT (a:Int) (b:ap):Option ((List bh) × ao) :=
  dU b.zq a >>= fun x1 =>
  cX (fun k1 (st:(List bh) × (List (List (List (List Nat)))))=>eD a b x1 k1 st.1 st.2) (x1.length - 0) 0 (b.zn.ak,b.zd.S) >>= fun (l3,l4) =>
  some (l3,(⟨l4,b.zd.Rows,b.zd.az⟩:ao))
def bQ (a:ap) (k1:Nat) (l1:List bh) (l2:List (List (List (List Nat)))) (l3:List (List (List (List Nat)))) (l4:List (List (List Nat))):Option ((List bh) × (List (List (List (List Nat)))) × (List (List (List (List Nat)))) × (List (List (List Nat)))) :=
  gT ((k1:Nat):Int) (⟨(⟨a.zn.zw,a.zn.ai,a.zn.am,l1⟩:aB),a.zs,a.zq,(⟨l2,l3,l4⟩:ao)⟩:ap) >>= fun r2 =>
  some (r2.1,r2.2.S,r2.2.Rows,r2.2.az)
def dh (a:ap):Option ((List bh) × ao) :=
  nQ (max 0 (a.zs.N).toNat) >>= fun u1 =>
  cX (fun k1 (st:(List bh) × (List (List (List (List Nat)))) × (List (List (List (List Nat)))) × (List (List (List Nat))))=>bQ a k1 st.1 st.2.1 st.2.2.1 st.2.2.2) ((max 0 (a.zs.N).toNat) - 0) 0 (a.zn.ak,a.zd.S,a.zd.Rows,a.zd.az) >>= fun (l5,l6,l7,l8) =>
  some (l5,(⟨l6,l7,l8⟩:ao))
def iR (a:ap):Option ((List bh) × ao) :=
  dh a >>= fun r1 =>
  some (r1.1,r1.2)
def lm (a:Nat) (b:Nat):Option (Nat × Nat) :=
  some (vF a 4294967295) >>= fun x1 =>
  uI a (32:Int) >>= fun x2 =>
  some (vF b 4294967295) >>= fun x3 =>
  uI b (32:Int) >>= fun x4 =>
  some (uF x1 x3) >>= fun x5 =>
  some (uF x2 x3) >>= fun x6 =>
  uI x5 (32:Int) >>= fun x7 =>
  some (mV x6 x7) >>= fun x8 =>
  some (vF x8 4294967295) >>= fun x9 =>
  uI x8 (32:Int) >>= fun x10 =>
  some (uF x1 x4) >>= fun x11 =>
  some (mV x9 x11) >>= fun x12 =>
  some (uF x2 x4) >>= fun x13 =>
  some (mV x13 x10) >>= fun x14 =>
  uI x12 (32:Int) >>= fun x15 =>
  some (mV x14 x15) >>= fun x16 =>
  some (uF a b) >>= fun x17 =>
  some (x16,x17)
def qK (a:Nat):Option Int :=
  bif a == 31 then
    some ((5:Nat):Int)
  else
    bif a == 127 then
      some ((7:Nat):Int)
    else
      bif a == 8191 then
        some ((13:Nat):Int)
      else
        bif a == 131071 then
          some ((17:Nat):Int)
        else
          bif a == 524287 then
            some ((19:Nat):Int)
          else
            bif a == 2147483647 then
              some ((31:Nat):Int)
            else
              bif a == 2305843009213693951 then
                some ((61:Nat):Int)
              else
                bif a == 1 then
                  some ((1:Nat):Int)
                else
                  bif a == 2 then
                    some ((2:Nat):Int)
                  else
                    bif a == 3 then
                      some ((2:Nat):Int)
                    else
                      bif a == 4 then
                        some ((3:Nat):Int)
                      else
                        bif a == 5 then
                          some ((3:Nat):Int)
                        else
                          bif a == 6 then
                            some ((3:Nat):Int)
                          else
                            bif a == 7 then
                              some ((3:Nat):Int)
                            else
                              none
def rx (a:Nat):Option Nat :=
  qK a >>= fun r1 =>
  some (mu r1) >>= fun x1 =>
  some x1
def gW (a:Nat) (r1:Nat) (x1:Nat) (x2:Nat):Option (Out (Nat × Nat) Nat) :=
  (
    bif ((x1:Nat):Int) != (0:Int) then
      some true
    else
      some (decide (((x2:Nat):Int) > ((a:Nat):Int)))
  ) >>= fun x5 =>
  bif x5 then
    some (vF x2 a) >>= fun x6 =>
    uI x2 ((r1:Nat):Int) >>= fun x7 =>
    some (yz 64 r1) >>= fun x8 =>
    zx x1 ((x8:Nat):Int) >>= fun x9 =>
    some (Jx x7 x9) >>= fun x10 =>
    uI x1 ((r1:Nat):Int) >>= fun x11 =>
    some (mV x10 x6) >>= fun x12 =>
    some (Ep x10 x6) >>= fun x13 =>
    some (mV x11 x13) >>= fun x14 =>
    some (.go (x14,x12))
  else
    some (.fin x2)
def mH (a:Nat) (b:Nat) (c:Nat):Option Nat :=
  rx a >>= fun r1 =>
  qJ (fun (st:Nat × Nat)=>gW a r1 st.1 st.2) big (b,c) >>= fun x4 =>
  bif ((x4:Nat):Int) == ((a:Nat):Int) then
    some 0
  else
    some x4
def mG (a:Nat) (b:Nat) (c:Nat):Option Nat :=
  lm b c >>= fun r1 =>
  mH a r1.1 r1.2 >>= fun r2 =>
  some r2
def mF (a:Nat) (b:Nat) (c:Nat):Option Nat :=
  some (mV b c) >>= fun x1 =>
  mH a 0 x1 >>= fun r1 =>
  some r1
def mC (a:Nat) (x1:Nat) (x4:List Nat) (k2:Nat) (l4:List Nat):Option (List Nat) :=
  x4[k2]? >>= fun x6 =>
  l4[k2]? >>= fun x7 =>
  mG a x6 x1 >>= fun r3 =>
  mF a x7 r3 >>= fun r4 =>
  some (l4.set k2 r4) >>= fun l6 =>
  some l6
def i6 (a:Nat) (b:List (List Nat)) (c:Nat) (k1:Nat) (l2:List Nat) (x1:Nat):Option ((List Nat) × Nat) :=
  b[k1]? >>= fun x4 =>
  cX (fun k2 (st:(List Nat))=>mC a x1 x4 k2 st) (x4.length - 0) 0 l2 >>= fun l5 =>
  mG a x1 c >>= fun r5 =>
  some (l5,r5)
def gp (a:Nat) (b:List (List Nat)) (c:Nat):Option (List Nat) :=
  om 8 ((b.length:Nat):Int) ((b.length:Nat):Int) (0:Nat) >>= fun l1 =>
  cX (fun k1 (st:(List Nat) × Nat)=>i6 a b c k1 st.1 st.2) (b.length - 0) 0 (l1,1) >>= fun (l3,x3) =>
  some l3
def gF (a:ap) (k1:Nat) (x2:List (List (List Nat))) (k2:Nat) (l3:List Nat):Option (List Nat) :=
  x2[k2]? >>= fun x4 =>
  some (mu ((k1:Nat):Int)) >>= fun x5 =>
  gp a.zs.P x4 x5 >>= fun r3 =>
  cW 8 l3 r3 >>= fun l5 =>
  some l5
def gE (a:Int) (b:ap) (k1:Nat) (l1:List (List (List Nat))):Option (List (List (List Nat))) :=
  dU b.zd.S a >>= fun x2 =>
  nQ x2.length >>= fun u2 =>
  cX (fun k2 (st:(List Nat))=>gF b k1 x2 k2 st) (x2.length - 0) 0 ([]:List Nat) >>= fun l4 =>
  dU l1 a >>= fun x6 =>
  cW 24 x6 ([l4]:List (List Nat)) >>= fun l6 =>
  some (l1.set a.toNat l6) >>= fun l7 =>
  some l7
def fy (a:Int) (b:ap) (c:List (List (List Nat))):Option (List (List (List Nat))) :=
  nQ (max 1 (b.zs.N+1).toNat) >>= fun u1 =>
  cX (fun k1 (st:(List (List (List Nat))))=>gE a b k1 st) ((max 1 (b.zs.N+1).toNat) - 1) 1 c >>= fun l2 =>
  some l2
def cR (a:ap) (k1:Nat) (l1:List (List (List Nat))):Option (List (List (List Nat))) :=
  fy ((k1:Nat):Int) a l1 >>= fun r2 =>
  some r2
def ca (a:ap) (b:List (List (List Nat))):Option (List (List (List Nat))) :=
  nQ (max 0 (a.zs.N).toNat) >>= fun u1 =>
  cX (fun k1 (st:(List (List (List Nat))))=>cR a k1 st) ((max 0 (a.zs.N).toNat) - 0) 0 b >>= fun l2 =>
  some l2
def cw (a:List (List Nat)):Option (List (List Nat)) :=
  cW 24 ([]:List (List Nat)) a >>= fun l1 =>
  some l1
def iW (a:List Int) (b:Int) (k1:Nat):Option (Out Unit Int) :=
  a[k1]? >>= fun x1 =>
  bif b == x1 then
    some (.fin ((k1:Nat):Int))
  else
    some (.go ())
def jU (a:List Int) (b:Int):Option Int :=
  oe (fun k1 (st:Unit)=>iW a b k1) (a.length - 0) 0 () >>= fun r1=>kN r1 (fun x=>some x) fun _ =>
  some (-1)
def cj (a:List Int) (b:Int):Option Bool :=
  jU a b >>= fun r1 =>
  some (decide (r1 ≥ (0:Int)))
def hY (a:ab) (b:aT) (c:Int):Option Bool :=
  bif b.Round == c then
    cj a.ah b.From >>= fun r1 =>
    some r1
  else
    some false
def nL (a:Nat) (b:Nat):Option Nat :=
  mH a 0 b >>= fun r1 =>
  some r1
def dK (a:List Nat):Option (List Nat) :=
  cW 8 ([]:List Nat) a >>= fun l1 =>
  some l1
def i5 (a:List Nat) (b:Int):Option Nat :=
  bif decide (b < (0:Int)) then
    some 0
  else
    bif decide (b ≥ ((a.length:Nat):Int)) then
      some 0
    else
      dU a b >>= fun x1 =>
      some x1
def hZ (a:ab) (b:aT) (c:List Nat) (d:List Nat):Option (List Nat) :=
  bif b.Kind == (4:Int) then
    some ([]:List Nat)
  else
    bif decide (b.At ≥ ((c.length:Nat):Int)) then
      some c
    else
      nL a.S.P b.K >>= fun r1 =>
      dK c >>= fun r2 =>
      bif b.Kind == (1:Int) then
        dU r2 b.At >>= fun x1 =>
        some (r2.set b.At.toNat r1) >>= fun l1 =>
        some l1
      else
        bif b.Kind == (2:Int) then
          dU r2 b.At >>= fun x2 =>
          mF a.S.P x2 r1 >>= fun r3 =>
          some (r2.set b.At.toNat r3) >>= fun l2 =>
          some l2
        else
          bif b.Kind == (3:Int) then
            cj a.ah b.Of >>= fun r4 =>
            (
              bif !r4 then
                i5 d b.aX >>= fun r5 =>
                some r5
              else
                some 0
            ) >>= fun x3 =>
            dU r2 b.At >>= fun x4 =>
            mG a.S.P r1 x3 >>= fun r6 =>
            mF a.S.P x4 r6 >>= fun r7 =>
            some (r2.set b.At.toNat r7) >>= fun l3 =>
            some l3
          else
            some r2
def cD (a:List (List (List Nat))) (k1:Nat) (l2:List (List (List Nat))):Option (List (List (List Nat))) :=
  a[k1]? >>= fun x2 =>
  cw x2 >>= fun r2 =>
  l2[k1]? >>= fun x3 =>
  some (l2.set k1 r2) >>= fun l4 =>
  some l4
def dt (a:ab) (x5:aT) (l7:List Nat) (x10:Int) (k3:Nat) (l8:List (List (List Nat))):Option (List (List (List Nat))) :=
  (
    eJ ((k3:Nat):Int) (1:Int) >>= fun x14 =>
    bif x14 != x5.From then
      bif x5.To == (0:Int) then
        some true
      else
        some (x5.To == x14)
    else
      some false
  ) >>= fun x13 =>
  bif x13 then
    dU l8 x10 >>= fun x15 =>
    x15[k3]? >>= fun x16 =>
    hZ a x5 x16 l7 >>= fun r6 =>
    some (x15.set k3 r6) >>= fun l10 =>
    some (l8.set x10.toNat l10) >>= fun l11 =>
    some l11
  else
    some l8
def dp (a:ab) (b:Int) (c:List (List (List Nat))) (k2:Nat) (l5:List (List (List Nat))):Option (List (List (List Nat))) :=
  a.aa[k2]? >>= fun x5 =>
  hY a x5 b >>= fun r4 =>
  bif !r4 then
    some l5
  else
    (
      bif x5.Kind == (3:Int) then
        gJ x5.Of (1:Int) >>= fun x6 =>
        dU c x6 >>= fun x7 =>
        gJ x5.From (1:Int) >>= fun x8 =>
        dU x7 x8 >>= fun x9 =>
        some x9
      else
        some ([]:List Nat)
    ) >>= fun l7 =>
    gJ x5.From (1:Int) >>= fun x10 =>
    dU l5 x10 >>= fun x11 =>
    nQ x11.length >>= fun u1 =>
    cX (fun k3 (st:(List (List (List Nat))))=>dt a x5 l7 x10 k3 st) (x11.length - 0) 0 l5 >>= fun l9 =>
    some l9
def bl (a:ab) (b:Int) (c:List (List (List Nat))):Option (List (List (List Nat))) :=
  om 24 ((c.length:Nat):Int) ((c.length:Nat):Int) ([]:List (List Nat)) >>= fun l1 =>
  cX (fun k1 (st:(List (List (List Nat))))=>cD c k1 st) (c.length - 0) 0 l1 >>= fun l3 =>
  cX (fun k2 (st:(List (List (List Nat))))=>dp a b c k2 st) (a.aa.length - 0) 0 l3 >>= fun l6 =>
  some l6
def ge (a:aB) (b:Int) (c:Int) (d:List Nat):Option (List (List af)) :=
  (
    bif b != c then
      some (decide (((d.length:Nat):Int) > (0:Int)))
    else
      some false
  ) >>= fun x1 =>
  bif x1 then
    dU a.am b >>= fun x2 =>
    eJ c (1:Int) >>= fun x3 =>
    cW 8 ([]:List Nat) d >>= fun l1 =>
    cW 40 x2 ([(⟨a.ai,x3,l1⟩:af)]:List af) >>= fun l2 =>
    some (a.am.set b.toNat l2) >>= fun l3 =>
    some l3
  else
    some a.am
def fE (a:aB) (r1:(List (List (List Nat)))) (k1:Nat) (k2:Nat) (l6:List (List af)) (l7:List (List (List Nat))):Option ((List (List af)) × (List (List (List Nat)))) :=
  r1[k2]? >>= fun x3 =>
  x3[k1]? >>= fun x4 =>
  cW 8 ([]:List Nat) x4 >>= fun l10 =>
  l7[k1]? >>= fun x5 =>
  cW 24 x5 ([l10]:List (List Nat)) >>= fun l11 =>
  some (l7.set k1 l11) >>= fun l12 =>
  ge (⟨a.zw,a.ai,l6,a.ak⟩:aB) ((k1:Nat):Int) ((k2:Nat):Int) l10 >>= fun r4 =>
  some (r4,l12)
def fD (a:aB) (r1:(List (List (List Nat)))) (k1:Nat) (l2:List (List af)) (l3:List (List (List Nat))):Option ((List (List af)) × (List (List (List Nat)))) :=
  nQ (max 0 (a.zw.S.N).toNat) >>= fun u1 =>
  cX (fun k2 (st:(List (List af)) × (List (List (List Nat))))=>fE a r1 k1 k2 st.1 st.2) ((max 0 (a.zw.S.N).toNat) - 0) 0 (l2,l3) >>= fun (l8,l9) =>
  some (l8,l9)
def f9 (a:aB) (b:List (List (List Nat))):Option ((List (List (List Nat))) × Int × (List (List af))) :=
  bl a.zw a.ai b >>= fun r1 =>
  om 24 a.zw.S.N a.zw.S.N ([]:List (List Nat)) >>= fun l1 =>
  cX (fun k1 (st:(List (List af)) × (List (List (List Nat))))=>fD a r1 k1 st.1 st.2) (l1.length - 0) 0 (a.am,l1) >>= fun (l4,l5) =>
  eJ a.ai (1:Int) >>= fun x6 =>
  some (l5,x6,l4)
def fp (a:List Nat) (b:Int):Option (List Nat) :=
  om 8 b b (0:Nat) >>= fun l1 =>
  some (vO l1 a)
def gH (a:Int) (r2:(List Nat)) (k2:Nat) (l3:List (List Nat)):Option (List (List Nat)) :=
  lU ((k2:Nat):Int) a >>= fun x7 =>
  eJ ((k2:Nat):Int) (1:Int) >>= fun x8 =>
  lU x8 a >>= fun x9 =>
  rq r2 x7 x9 >>= fun l5 =>
  cW 24 l3 ([l5]:List (List Nat)) >>= fun l6 =>
  some l6
def gG (a:Int) (b:ap) (c:List (List (List Nat))) (d:Int) (k1:Nat) (l1:List (List (List (List Nat)))):Option (List (List (List (List Nat)))) :=
  b.zq[k1]? >>= fun x2 =>
  dU c a >>= fun x3 =>
  x3[k1]? >>= fun x4 =>
  lU ((x2.length:Nat):Int) d >>= fun x5 =>
  fp x4 x5 >>= fun r2 =>
  cX (fun k2 (st:(List (List Nat)))=>gH d r2 k2 st) (x2.length - 0) 0 ([]:List (List Nat)) >>= fun l4 =>
  dU l1 a >>= fun x10 =>
  cW 24 x10 ([l4]:List (List (List Nat))) >>= fun l7 =>
  some (l1.set a.toNat l7) >>= fun l8 =>
  some l8
def fA (a:Int) (b:ap) (c:List (List (List Nat))) (d:Int):Option ao :=
  cX (fun k1 (st:(List (List (List (List Nat)))))=>gG a b c d k1 st) (b.zq.length - 0) 0 b.zd.Rows >>= fun l2 =>
  some (⟨b.zd.S,l2,b.zd.az⟩:ao)
def bB (a:ap) (b:List (List (List Nat))) (c:Int) (k1:Nat) (l1:List (List (List (List Nat)))) (l2:List (List (List (List Nat)))) (l3:List (List (List Nat))):Option ((List (List (List (List Nat)))) × (List (List (List (List Nat)))) × (List (List (List Nat)))) :=
  fA ((k1:Nat):Int) (⟨a.zn,a.zs,a.zq,(⟨l1,l2,l3⟩:ao)⟩:ap) b c >>= fun r2 =>
  some (r2.S,r2.Rows,r2.az)
def cb (a:ap) (b:List (List (List Nat))) (c:Int):Option ao :=
  nQ (max 0 (a.zs.N).toNat) >>= fun u1 =>
  cX (fun k1 (st:(List (List (List (List Nat)))) × (List (List (List (List Nat)))) × (List (List (List Nat))))=>bB a b c k1 st.1 st.2.1 st.2.2) ((max 0 (a.zs.N).toNat) - 0) 0 (a.zd.S,a.zd.Rows,a.zd.az) >>= fun (l4,l5,l6) =>
  some (⟨l4,l5,l6⟩:ao)
def gx (a:ap):Option (Int × (List (List af)) × ao) :=
  eJ a.zs.T (1:Int) >>= fun x1 =>
  om 24 a.zs.N a.zs.N ([]:List (List Nat)) >>= fun l1 =>
  ca a l1 >>= fun r1 =>
  f9 a.zn r1 >>= fun r2 =>
  cb (⟨(⟨a.zn.zw,r2.2.1,r2.2.2,a.zn.ak⟩:aB),a.zs,a.zq,a.zd⟩:ap) r2.1 x1 >>= fun r3 =>
  some (r2.2.1,r2.2.2,r3)
def lV (a:Nat) (b:List Nat) (c:Nat) (x2:Nat) (x3:Int):Option (Out (Nat × Int) Nat) :=
  bif decide (x3 ≥ (0:Int)) then
    mG a x2 c >>= fun r2 =>
    dU b x3 >>= fun x6 =>
    mF a r2 x6 >>= fun r3 =>
    gJ x3 (1:Int) >>= fun x7 =>
    some (.go (r3,x7))
  else
    some (.fin x2)
def jL (a:Nat) (b:List Nat) (c:Nat):Option Nat :=
  gJ ((b.length:Nat):Int) (1:Int) >>= fun x1 =>
  qJ (fun (st:Nat × Int)=>lV a b c st.1 st.2) big (0,x1) >>= fun x5 =>
  some x5
def lL (a:ap) (b:Int) (x3:List (List Nat)) (k2:Nat) (l3:List Nat):Option (List Nat) :=
  x3[k2]? >>= fun x5 =>
  some (mu b) >>= fun x6 =>
  jL a.zs.P x5 x6 >>= fun r3 =>
  cW 8 l3 ([r3]:List Nat) >>= fun l5 =>
  some l5
def jg (a:ap) (b:Int) (x1:List (List (List Nat))) (k1:Nat) (l1:List Nat):Option (List Nat) :=
  x1[k1]? >>= fun x3 =>
  cX (fun k2 (st:(List Nat))=>lL a b x3 k2 st) (x3.length - 0) 0 l1 >>= fun l4 =>
  some l4
def gI (a:ap) (b:Int) (c:Int):Option (List Nat) :=
  dU a.zd.Rows b >>= fun x1 =>
  nQ x1.length >>= fun u1 =>
  cX (fun k1 (st:(List Nat))=>jg a c x1 k1 st) (x1.length - 0) 0 ([]:List Nat) >>= fun l2 =>
  some l2
def kJ (a:Int) (b:ap) (k1:Nat) (l1:List (List (List Nat))):Option (List (List (List Nat))) :=
  dU l1 a >>= fun x2 =>
  gI b a ((k1:Nat):Int) >>= fun r2 =>
  cW 24 x2 ([r2]:List (List Nat)) >>= fun l3 =>
  some (l1.set a.toNat l3) >>= fun l4 =>
  some l4
def jf (a:Int) (b:ap) (c:List (List (List Nat))):Option (List (List (List Nat))) :=
  nQ (max 1 (b.zs.N+1).toNat) >>= fun u1 =>
  cX (fun k1 (st:(List (List (List Nat))))=>kJ a b k1 st) ((max 1 (b.zs.N+1).toNat) - 1) 1 c >>= fun l2 =>
  some l2
def eE (a:ap) (k1:Nat) (l1:List (List (List Nat))):Option (List (List (List Nat))) :=
  jf ((k1:Nat):Int) a l1 >>= fun r2 =>
  some r2
def cz (a:ap) (b:List (List (List Nat))):Option (List (List (List Nat))) :=
  nQ (max 0 (a.zs.N).toNat) >>= fun u1 =>
  cX (fun k1 (st:(List (List (List Nat))))=>eE a k1 st) ((max 0 (a.zs.N).toNat) - 0) 0 b >>= fun l2 =>
  some l2
def iC (a:ap):Option ((List (List (List Nat))) × Int × (List (List af))) :=
  om 24 a.zs.N a.zs.N ([]:List (List Nat)) >>= fun l1 =>
  cz a l1 >>= fun r1 =>
  f9 a.zn r1 >>= fun r2 =>
  some (r2.1,r2.2.1,r2.2.2)
def fC (a:ap) (k1:Nat) (r2:(List Nat)) (r3:(List Nat)) (k2:Nat) (k3:Nat) (l6:List Nat) (x9:Int):Option ((List Nat) × Int) :=
  dU r3 x9 >>= fun x12 =>
  dU r2 x9 >>= fun x13 =>
  bif ((x12:Nat):Int) != ((x13:Nat):Int) then
    lU ((k2:Nat):Int) a.zs.N >>= fun x14 =>
    eJ x14 ((k1:Nat):Int) >>= fun x15 =>
    dU l6 x15 >>= fun x16 =>
    some (l6.set x15.toNat 1) >>= fun l8 =>
    eJ x9 (1:Int) >>= fun x17 =>
    some (l8,x17)
  else
    eJ x9 (1:Int) >>= fun x18 =>
    some (l6,x18)
def fB (a:ap) (k1:Nat) (r2:(List Nat)) (r3:(List Nat)) (k2:Nat) (l4:List Nat) (x5:Int):Option ((List Nat) × Int) :=
  a.zq[k2]? >>= fun x8 =>
  cX (fun k3 (st:(List Nat) × Int)=>fC a k1 r2 r3 k2 k3 st.1 st.2) (x8.length - 0) 0 (l4,x5) >>= fun (l7,x11) =>
  some (l7,x11)
def jF (a:ap) (b:Int) (c:List (List Nat)) (k1:Nat) (l2:List Nat):Option (List Nat) :=
  bif ((k1:Nat):Int) == b then
    some l2
  else
    eJ ((k1:Nat):Int) (1:Int) >>= fun x3 =>
    gI a b x3 >>= fun r2 =>
    c[k1]? >>= fun x4 =>
    fp x4 ((r2.length:Nat):Int) >>= fun r3 =>
    cX (fun k2 (st:(List Nat) × Int)=>fB a k1 r2 r3 k2 st.1 st.2) (a.zq.length - 0) 0 (l2,((0:Nat):Int)) >>= fun (l5,x7) =>
    some l5
def dC (a:ap) (b:Int) (c:List (List Nat)):Option (List Nat) :=
  lU a.zs.N a.zs.N >>= fun x1 =>
  om 8 x1 x1 (0:Nat) >>= fun l1 =>
  nQ (max 0 (a.zs.N).toNat) >>= fun u1 =>
  cX (fun k1 (st:(List Nat))=>jF a b c k1 st) ((max 0 (a.zs.N).toNat) - 0) 0 l1 >>= fun l3 =>
  some l3
def iX (a:Int) (b:ap) (c:List (List (List Nat))) (d:List (List Nat)):Option (List (List Nat)) :=
  dU c a >>= fun x1 =>
  dC b a x1 >>= fun r1 =>
  dU d a >>= fun x2 =>
  some (d.set a.toNat r1) >>= fun l1 =>
  some l1
def dW (a:ap) (b:List (List (List Nat))) (k1:Nat) (l1:List (List Nat)):Option (List (List Nat)) :=
  iX ((k1:Nat):Int) a b l1 >>= fun r2 =>
  some r2
def ck (a:ap) (b:List (List (List Nat))) (c:List (List Nat)):Option (List (List Nat)) :=
  nQ (max 0 (a.zs.N).toNat) >>= fun u1 =>
  cX (fun k1 (st:(List (List Nat)))=>dW a b k1 st) ((max 0 (a.zs.N).toNat) - 0) 0 c >>= fun l2 =>
  some l2
def de (a:ab) (b:Int) (c:List (List Nat)) (k1:Nat) (l1:List (List Nat)):Option (List (List Nat)) :=
  a.aa[k1]? >>= fun x2 =>
  hY a x2 b >>= fun r3 =>
  bif !r3 then
    some l1
  else
    (
      bif x2.Kind == (3:Int) then
        gJ x2.Of (1:Int) >>= fun x3 =>
        dU c x3 >>= fun x4 =>
        some x4
      else
        some ([]:List Nat)
    ) >>= fun l3 =>
    gJ x2.From (1:Int) >>= fun x5 =>
    dU l1 x5 >>= fun x6 =>
    hZ a x2 x6 l3 >>= fun r4 =>
    some (l1.set x5.toNat r4) >>= fun l4 =>
    some l4
def aU (a:ab) (b:Int) (c:List (List Nat)):Option (List (List Nat)) :=
  cw c >>= fun r1 =>
  cX (fun k1 (st:(List (List Nat)))=>de a b c k1 st) (a.aa.length - 0) 0 r1 >>= fun l2 =>
  some l2
def dw (a:aB) (k1:Nat) (l7:List (List Nat)) (k2:Nat) (l8:List (List af)):Option (List (List af)) :=
  l7[k1]? >>= fun x5 =>
  ge (⟨a.zw,a.ai,l8,a.ak⟩:aB) ((k2:Nat):Int) ((k1:Nat):Int) x5 >>= fun r4 =>
  some r4
def cN (a:aB) (r1:(List (List Nat))) (k1:Nat) (l2:List (List af)) (l3:List (List Nat)):Option ((List (List af)) × (List (List Nat))) :=
  r1[k1]? >>= fun x2 =>
  cW 8 ([]:List Nat) x2 >>= fun l6 =>
  l3[k1]? >>= fun x3 =>
  some (l3.set k1 l6) >>= fun l7 =>
  cX (fun k2 (st:(List (List af)))=>dw a k1 l7 k2 st) (l7.length - 0) 0 l2 >>= fun l9 =>
  some (l9,l7)
def bW (a:aB) (b:List (List Nat)):Option ((List (List Nat)) × Int × (List (List af))) :=
  aU a.zw a.ai b >>= fun r1 =>
  om 24 a.zw.S.N a.zw.S.N (([]:List Nat):List Nat) >>= fun l1 =>
  cX (fun k1 (st:(List (List af)) × (List (List Nat)))=>cN a r1 k1 st.1 st.2) (l1.length - 0) 0 (a.am,l1) >>= fun (l4,l5) =>
  eJ a.ai (1:Int) >>= fun x6 =>
  some (l5,x6,l4)
def km (a:Int) (b:ap) (r1:(List Nat)) (k1:Nat) (l1:List (List (List Nat))):Option (List (List (List Nat))) :=
  dU l1 a >>= fun x4 =>
  lU ((k1:Nat):Int) b.zs.N >>= fun x5 =>
  eJ ((k1:Nat):Int) (1:Int) >>= fun x6 =>
  lU x6 b.zs.N >>= fun x7 =>
  rq r1 x5 x7 >>= fun l3 =>
  cW 24 x4 ([l3]:List (List Nat)) >>= fun l4 =>
  some (l1.set a.toNat l4) >>= fun l5 =>
  some l5
def gw (a:Int) (b:List (List Nat)) (c:ap):Option ao :=
  dU b a >>= fun x1 =>
  lU c.zs.N c.zs.N >>= fun x2 =>
  fp x1 x2 >>= fun r1 =>
  nQ (max 0 (c.zs.N).toNat) >>= fun u1 =>
  cX (fun k1 (st:(List (List (List Nat))))=>km a c r1 k1 st) ((max 0 (c.zs.N).toNat) - 0) 0 c.zd.az >>= fun l2 =>
  some (⟨c.zd.S,c.zd.Rows,l2⟩:ao)
def bH (a:ap) (b:List (List Nat)) (k1:Nat) (l1:List (List (List (List Nat)))) (l2:List (List (List (List Nat)))) (l3:List (List (List Nat))):Option ((List (List (List (List Nat)))) × (List (List (List (List Nat)))) × (List (List (List Nat)))) :=
  gw ((k1:Nat):Int) b (⟨a.zn,a.zs,a.zq,(⟨l1,l2,l3⟩:ao)⟩:ap) >>= fun r2 =>
  some (r2.S,r2.Rows,r2.az)
def cm (a:ap) (b:List (List Nat)):Option ao :=
  nQ (max 0 (a.zs.N).toNat) >>= fun u1 =>
  cX (fun k1 (st:(List (List (List (List Nat)))) × (List (List (List (List Nat)))) × (List (List (List Nat))))=>bH a b k1 st.1 st.2.1 st.2.2) ((max 0 (a.zs.N).toNat) - 0) 0 (a.zd.S,a.zd.Rows,a.zd.az) >>= fun (l4,l5,l6) =>
  some (⟨l4,l5,l6⟩:ao)
def gU (a:ap) (b:List (List (List Nat))):Option (Int × (List (List af)) × ao) :=
  om 24 a.zs.N a.zs.N (([]:List Nat):List Nat) >>= fun l1 =>
  ck a b l1 >>= fun r1 =>
  bW a.zn r1 >>= fun r2 =>
  cm (⟨(⟨a.zn.zw,r2.2.1,r2.2.2,a.zn.ak⟩:aB),a.zs,a.zq,a.zd⟩:ap) r2.1 >>= fun r3 =>
  some (r2.2.1,r2.2.2,r3)
def jE (a:aB) (b:List (List (List Nat))):Option (ao × Int × (List (List af)) × (List bh)) :=
  ct a >>= fun r1 =>
  om 24 r1.S.N r1.S.N ([]:List (List (List Nat))) >>= fun l1 =>
  om 24 r1.S.N r1.S.N ([]:List (List Nat)) >>= fun l2 =>
  iR (⟨a,r1.S,b,(⟨l1,l1,l2⟩:ao)⟩:ap) >>= fun r2 =>
  gx (⟨(⟨a.zw,a.ai,a.am,r2.1⟩:aB),r1.S,b,r2.2⟩:ap) >>= fun r3 =>
  iC (⟨(⟨a.zw,r3.1,r3.2.1,r2.1⟩:aB),r1.S,b,r3.2.2⟩:ap) >>= fun r4 =>
  gU (⟨(⟨a.zw,r4.2.1,r4.2.2,r2.1⟩:aB),r1.S,b,r3.2.2⟩:ap) r4.1 >>= fun r5 =>
  some (r5.2.2,r5.1,r5.2.1,r2.1)
def br (a:aC):Option Int :=
  some ((a.zd.Rows.length:Nat):Int)
def mw (k1:Nat) (x3:List Nat) (k2:Nat) (l3:List bG):Option (List bG) :=
  x3[k2]? >>= fun x5 =>
  bif ((x5:Nat):Int) != (0:Int) then
    cW 16 l3 ([(⟨((k1:Nat):Int),((k2:Nat):Int)⟩:bG)]:List bG) >>= fun l5 =>
    some l5
  else
    some l3
def jV (a:aC) (b:Int) (k1:Nat) (l1:List bG):Option (List bG) :=
  a.zd.az[k1]? >>= fun x2 =>
  dU x2 b >>= fun x3 =>
  cX (fun k2 (st:(List bG))=>mw k1 x3 k2 st) (x3.length - 0) 0 l1 >>= fun l4 =>
  some l4
def gm (a:aC) (b:Int):Option (List bG) :=
  br a >>= fun r1 =>
  nQ (max 0 (r1).toNat) >>= fun u1 =>
  cX (fun k1 (st:(List bG))=>jV a b k1 st) ((max 0 (r1).toNat) - 0) 0 ([]:List bG) >>= fun l2 =>
  some l2
def qA (a:Int):Option Nat :=
  eJ a (1:Int) >>= fun x1 =>
  some (mu x1) >>= fun x2 =>
  some x2
def lO (a:Nat) (b:List (List Nat)) (c:Nat) (d:Nat):Option Nat :=
  gp a b c >>= fun r1 =>
  jL a r1 d >>= fun r2 =>
  some r2
def gN (a:aC) (b:Int):Option Int :=
  dU a.zd.S b >>= fun x1 =>
  some ((x1.length:Nat):Int)
def je (a:mN) (b:Int):Option ((List Nat) × (List Nat)) :=
  fp a.zl b >>= fun r1 =>
  some (min b ((a.zl.length:Nat):Int)) >>= fun x1 =>
  rq a.zl x1 ((a.zl.length:Nat):Int) >>= fun l1 =>
  some (r1,l1)
def nq (a:aC) (x3:bG) (x4:List (List (List Nat))) (k3:Nat) (l5:List Nat):Option (List Nat) :=
  x4[k3]? >>= fun x6 =>
  qA x3.e0 >>= fun r6 =>
  qA x3.e1 >>= fun r7 =>
  lO a.zp x6 r6 r7 >>= fun r8 =>
  cW 8 l5 ([r8]:List Nat) >>= fun l7 =>
  some l7
def kF (a:aC) (k1:Nat) (r3:(List bG)) (k2:Nat) (l3:List Nat):Option (List Nat) :=
  r3[k2]? >>= fun x3 =>
  a.zd.S[k1]? >>= fun x4 =>
  cX (fun k3 (st:(List Nat))=>nq a x3 x4 k3 st) (x4.length - 0) 0 l3 >>= fun l6 =>
  some l6
def kE (a:aC) (k1:Nat) (l1:List (List Nat)):Option (List (List Nat)) :=
  gm a ((k1:Nat):Int) >>= fun r3 =>
  cX (fun k2 (st:(List Nat))=>kF a k1 r3 k2 st) (r3.length - 0) 0 ([]:List Nat) >>= fun l4 =>
  cW 24 l1 ([l4]:List (List Nat)) >>= fun l8 =>
  some l8
def gD (a:aC) (r9:(List (List Nat)) × Int × (List (List af))) (k4:Nat) (k5:Nat) (l11:List Nat) (l12:List (List Nat)):Option ((List Nat) × (List (List Nat))) :=
  gN (⟨(⟨a.zn.zw,r9.2.1,r9.2.2,a.zn.ak⟩:aB),a.zp,a.zd,a.bg,a.bX,a.c8⟩:aC) ((k4:Nat):Int) >>= fun r14 =>
  je (⟨l11⟩:mN) r14 >>= fun r15 =>
  cW 24 l12 ([r15.1]:List (List Nat)) >>= fun l15 =>
  some (r15.2,l15)
def nr (a:aC) (r9:(List (List Nat)) × Int × (List (List af))) (k4:Nat) (l9:List (List (List Nat))):Option (List (List (List Nat))) :=
  r9.1[k4]? >>= fun x8 =>
  gm (⟨(⟨a.zn.zw,r9.2.1,r9.2.2,a.zn.ak⟩:aB),a.zp,a.zd,a.bg,a.bX,a.c8⟩:aC) ((k4:Nat):Int) >>= fun r12 =>
  cX (fun k5 (st:(List Nat) × (List (List Nat)))=>gD a r9 k4 k5 st.1 st.2) (r12.length - 0) 0 (x8,([]:List (List Nat))) >>= fun (l13,l14) =>
  cW 24 l9 ([l14]:List (List (List Nat))) >>= fun l16 =>
  some l16
def ki (a:aC):Option ((List (List (List Nat))) × Int × (List (List af))) :=
  br a >>= fun r1 =>
  nQ (max 0 (r1).toNat) >>= fun u1 =>
  cX (fun k1 (st:(List (List Nat)))=>kE a k1 st) ((max 0 (r1).toNat) - 0) 0 ([]:List (List Nat)) >>= fun l2 =>
  bW a.zn l2 >>= fun r9 =>
  br (⟨(⟨a.zn.zw,r9.2.1,r9.2.2,a.zn.ak⟩:aB),a.zp,a.zd,a.bg,a.bX,a.c8⟩:aC) >>= fun r10 =>
  nQ (max 0 (r10).toNat) >>= fun u2 =>
  cX (fun k4 (st:(List (List (List Nat))))=>nr a r9 k4 st) ((max 0 (r10).toNat) - 0) 0 ([]:List (List (List Nat))) >>= fun l10 =>
  some (l10,r9.2.1,r9.2.2)
def qB (a:bG) (b:Int):Option (List Int) :=
  (
    bif a.e0 == b then
      cW 8 ([]:List Int) ([a.e1]:List Int) >>= fun l2 =>
      some l2
    else
      some ([]:List Int)
  ) >>= fun l1 =>
  bif a.e1 == b then
    cW 8 l1 ([a.e0]:List Int) >>= fun l3 =>
    some l3
  else
    some l1
def lj (a:aC) (b:Int) (c:Int) (d:Int):Option (List Nat) :=
  dU a.zd.Rows b >>= fun x1 =>
  dU x1 c >>= fun x2 =>
  dU x2 d >>= fun x3 =>
  some x3
def kI (a:aC) (b:Int) (c:Int) (x2:Int) (x3:List Nat) (k3:Nat):Option (Out Unit Bool) :=
  x3[k3]? >>= fun x4 =>
  lj a b c ((k3:Nat):Int) >>= fun r6 =>
  qA x2 >>= fun r7 =>
  jL a.zp r6 r7 >>= fun r8 =>
  bif ((r8:Nat):Int) != ((x4:Nat):Int) then
    some (.fin true)
  else
    some (.go ())
def kH (a:aC) (b:Int) (c:Int) (d:List (List Nat)) (k1:Nat) (r3:(List Int)) (k2:Nat):Option (Out Unit Bool) :=
  r3[k2]? >>= fun x2 =>
  d[k1]? >>= fun x3 =>
  oe (fun k3 (st:Unit)=>kI a b c x2 x3 k3) (x3.length - 0) 0 () >>= fun r5=>kN r5 (fun x=>some (.fin x)) fun _ =>
  some (.go ())
def kG (a:aC) (b:Int) (c:Int) (d:List (List Nat)) (r1:(List bG)) (k1:Nat):Option (Out Unit Bool) :=
  r1[k1]? >>= fun x1 =>
  qB x1 b >>= fun r3 =>
  oe (fun k2 (st:Unit)=>kH a b c d k1 r3 k2) (r3.length - 0) 0 () >>= fun r4=>kN r4 (fun x=>some (.fin x)) fun _ =>
  some (.go ())
def kj (a:aC) (b:Int) (c:Int) (d:List (List Nat)):Option Bool :=
  gm a c >>= fun r1 =>
  oe (fun k1 (st:Unit)=>kG a b c d r1 k1) (r1.length - 0) 0 () >>= fun r2=>kN r2 (fun x=>some x) fun _ =>
  some false
def iq (a:Int) (b:Int) (c:aC) (d:List (List (List Nat))):Option Bool :=
  dU d b >>= fun x1 =>
  kj c a b x1 >>= fun r1 =>
  some r1
def ll (a:aC) (b:List (List (List Nat))) (k1:Nat) (k2:Nat) (l3:List Nat):Option (List Nat) :=
  iq ((k1:Nat):Int) ((k2:Nat):Int) a b >>= fun r4 =>
  bif r4 then
    cW 8 l3 ([1]:List Nat) >>= fun l5 =>
    some l5
  else
    cW 8 l3 ([0]:List Nat) >>= fun l6 =>
    some l6
def lk (a:aC) (b:List (List (List Nat))) (r1:Int) (k1:Nat) (l1:List (List Nat)):Option (List (List Nat)) :=
  cX (fun k2 (st:(List Nat))=>ll a b k1 k2 st) ((max 0 (r1).toNat) - 0) 0 ([]:List Nat) >>= fun l4 =>
  cW 24 l1 ([l4]:List (List Nat)) >>= fun l7 =>
  some l7
def gY (r5:(List (List Nat)) × Int × (List (List af))) (r6:Int) (k3:Nat) (k4:Nat) (l11:List (List Bool)):Option (List (List Bool)) :=
  l11[k3]? >>= fun x5 =>
  r5.1[k4]? >>= fun x6 =>
  fp x6 r6 >>= fun r9 =>
  r9[k3]? >>= fun x7 =>
  cW 1 x5 ([((x7:Nat):Int) != (0:Int)]:List Bool) >>= fun l13 =>
  some (l11.set k3 l13) >>= fun l14 =>
  some l14
def eY (r5:(List (List Nat)) × Int × (List (List af))) (r6:Int) (k3:Nat) (l9:List (List Bool)):Option (List (List Bool)) :=
  nQ (max 0 (r6).toNat) >>= fun u2 =>
  cX (fun k4 (st:(List (List Bool)))=>gY r5 r6 k3 k4 st) ((max 0 (r6).toNat) - 0) 0 l9 >>= fun l12 =>
  some l12
def fx (a:aC) (b:List (List (List Nat))):Option ((List (List Bool)) × Int × (List (List af))) :=
  br a >>= fun r1 =>
  nQ (max 0 (r1).toNat) >>= fun u1 =>
  cX (fun k1 (st:(List (List Nat)))=>lk a b r1 k1 st) ((max 0 (r1).toNat) - 0) 0 ([]:List (List Nat)) >>= fun l2 =>
  bW a.zn l2 >>= fun r5 =>
  br (⟨(⟨a.zn.zw,r5.2.1,r5.2.2,a.zn.ak⟩:aB),a.zp,a.zd,a.bg,a.bX,a.c8⟩:aC) >>= fun r6 =>
  om 24 r6 r6 ([]:List Bool) >>= fun l8 =>
  cX (fun k3 (st:(List (List Bool)))=>eY r5 r6 k3 st) (l8.length - 0) 0 l8 >>= fun l10 =>
  some (l10,r5.2.1,r5.2.2)
def oH (a:aC) (k2:Nat) (x5:List (List (List Nat))) (k3:Nat) (l5:List Nat):Option (List Nat) :=
  x5[k3]? >>= fun x7 =>
  qA ((k2:Nat):Int) >>= fun r5 =>
  gp a.zp x7 r5 >>= fun r6 =>
  cW 8 l5 r6 >>= fun l7 =>
  some l7
def mh (a:aC) (k1:Nat) (x2:List Bool) (k2:Nat) (l3:List Nat):Option (List Nat) :=
  x2[k2]? >>= fun x4 =>
  bif x4 then
    a.zd.S[k1]? >>= fun x5 =>
    cX (fun k3 (st:(List Nat))=>oH a k2 x5 k3 st) (x5.length - 0) 0 l3 >>= fun l6 =>
    some l6
  else
    some l3
def mg (a:aC) (k1:Nat) (l1:List (List Nat)):Option (List (List Nat)) :=
  a.bg[k1]? >>= fun x2 =>
  cX (fun k2 (st:(List Nat))=>mh a k1 x2 k2 st) (x2.length - 0) 0 ([]:List Nat) >>= fun l4 =>
  cW 24 l1 ([l4]:List (List Nat)) >>= fun l8 =>
  some l8
def iQ (x8:Int) (k5:Nat) (k6:Nat) (l16:List Nat) (l17:List (List (List Nat))):Option ((List Nat) × (List (List (List Nat)))) :=
  l17[k5]? >>= fun x15 =>
  je (⟨l16⟩:mN) x8 >>= fun r15 =>
  cW 24 x15 ([r15.1]:List (List Nat)) >>= fun l20 =>
  some (l17.set k5 l20) >>= fun l21 =>
  some (r15.2,l21)
def gL (a:aC) (r7:(List (List Nat)) × Int × (List (List af))) (x8:Int) (l9:List (List (List (List Nat)))) (k4:Nat) (x11:List Bool) (k5:Nat) (l12:List Nat) (l13:List (List (List Nat))):Option ((List Nat) × (List (List (List Nat)))) :=
  x11[k5]? >>= fun x13 =>
  bif x13 then
    gN (⟨(⟨a.zn.zw,r7.2.1,r7.2.2,a.zn.ak⟩:aB),a.zp,a.zd,a.bg,a.bX,l9⟩:aC) ((k4:Nat):Int) >>= fun r13 =>
    nQ (max 0 (r13).toNat) >>= fun u3 =>
    cX (fun k6 (st:(List Nat) × (List (List (List Nat))))=>iQ x8 k5 k6 st.1 st.2) ((max 0 (r13).toNat) - 0) 0 (l12,l13) >>= fun (l18,l19) =>
    some (l18,l19)
  else
    some (l12,l13)
def oI (a:aC) (r7:(List (List Nat)) × Int × (List (List af))) (x8:Int) (k4:Nat) (l9:List (List (List (List Nat)))):Option (List (List (List (List Nat)))) :=
  r7.1[k4]? >>= fun x10 =>
  br (⟨(⟨a.zn.zw,r7.2.1,r7.2.2,a.zn.ak⟩:aB),a.zp,a.zd,a.bg,a.bX,l9⟩:aC) >>= fun r11 =>
  om 24 r11 r11 ([]:List (List Nat)) >>= fun l11 =>
  a.bg[k4]? >>= fun x11 =>
  cX (fun k5 (st:(List Nat) × (List (List (List Nat))))=>gL a r7 x8 l9 k4 x11 k5 st.1 st.2) (x11.length - 0) 0 (x10,l11) >>= fun (l14,l15) =>
  cW 24 l9 ([l15]:List (List (List (List Nat)))) >>= fun l22 =>
  some l22
def mf (a:aC):Option (Int × (List (List af)) × (List (List (List (List Nat))))) :=
  br a >>= fun r1 =>
  nQ (max 0 (r1).toNat) >>= fun u1 =>
  cX (fun k1 (st:(List (List Nat)))=>mg a k1 st) ((max 0 (r1).toNat) - 0) 0 ([]:List (List Nat)) >>= fun l2 =>
  bW a.zn l2 >>= fun r7 =>
  ct (⟨a.zn.zw,r7.2.1,r7.2.2,a.zn.ak⟩:aB) >>= fun r8 =>
  eJ r8.S.T (1:Int) >>= fun x8 =>
  br (⟨(⟨a.zn.zw,r7.2.1,r7.2.2,a.zn.ak⟩:aB),a.zp,a.zd,a.bg,a.bX,a.c8⟩:aC) >>= fun r9 =>
  nQ (max 0 (r9).toNat) >>= fun u2 =>
  cX (fun k4 (st:(List (List (List (List Nat)))))=>oI a r7 x8 k4 st) ((max 0 (r9).toNat) - 0) 0 a.c8 >>= fun l10 =>
  some (r7.2.1,r7.2.2,l10)
def jD (a:aC) (b:Int) (c:Int) (k1:Nat) (x4:List (List Nat)) (k2:Nat):Option (Out Unit Bool) :=
  x4[k2]? >>= fun x5 =>
  qA b >>= fun r3 =>
  jL a.zp x5 r3 >>= fun r4 =>
  lj a b c ((k2:Nat):Int) >>= fun r5 =>
  qA ((k1:Nat):Int) >>= fun r6 =>
  jL a.zp r5 r6 >>= fun r7 =>
  bif ((r4:Nat):Int) != ((r7:Nat):Int) then
    some (.fin true)
  else
    some (.go ())
def jC (a:aC) (b:Int) (c:Int) (x3:List (List (List Nat))) (k1:Nat):Option (Out Unit Bool) :=
  x3[k1]? >>= fun x4 =>
  oe (fun k2 (st:Unit)=>jD a b c k1 x4 k2) (x4.length - 0) 0 () >>= fun r2=>kN r2 (fun x=>some (.fin x)) fun _ =>
  some (.go ())
def dB (a:aC) (b:Int) (c:Int):Option Bool :=
  dU a.bg c >>= fun x1 =>
  dU x1 b >>= fun x2 =>
  bif x2 then
    some false
  else
    dU a.c8 c >>= fun x3 =>
    oe (fun k1 (st:Unit)=>jC a b c x3 k1) (x3.length - 0) 0 () >>= fun r1=>kN r1 (fun x=>some x) fun _ =>
    some false
def jX (a:aC) (k1:Nat) (k2:Nat) (l3:List Nat):Option (List Nat) :=
  dB a ((k1:Nat):Int) ((k2:Nat):Int) >>= fun r4 =>
  bif r4 then
    cW 8 l3 ([1]:List Nat) >>= fun l5 =>
    some l5
  else
    cW 8 l3 ([0]:List Nat) >>= fun l6 =>
    some l6
def jW (a:aC) (r1:Int) (k1:Nat) (l1:List (List Nat)):Option (List (List Nat)) :=
  cX (fun k2 (st:(List Nat))=>jX a k1 k2 st) ((max 0 (r1).toNat) - 0) 0 ([]:List Nat) >>= fun l4 =>
  cW 24 l1 ([l4]:List (List Nat)) >>= fun l7 =>
  some l7
def jZ (r5:(List (List Nat)) × Int × (List (List af))) (r6:Int) (k3:Nat) (k4:Nat) (l11:List (List Bool)):Option (List (List Bool)) :=
  l11[k3]? >>= fun x5 =>
  r5.1[k4]? >>= fun x6 =>
  fp x6 r6 >>= fun r9 =>
  r9[k3]? >>= fun x7 =>
  cW 1 x5 ([((x7:Nat):Int) != (0:Int)]:List Bool) >>= fun l13 =>
  some (l11.set k3 l13) >>= fun l14 =>
  some l14
def jY (r5:(List (List Nat)) × Int × (List (List af))) (r6:Int) (k3:Nat) (l9:List (List Bool)):Option (List (List Bool)) :=
  nQ (max 0 (r6).toNat) >>= fun u2 =>
  cX (fun k4 (st:(List (List Bool)))=>jZ r5 r6 k3 k4 st) ((max 0 (r6).toNat) - 0) 0 l9 >>= fun l12 =>
  some l12
def ee (a:aC):Option ((List (List Bool)) × Int × (List (List af))) :=
  br a >>= fun r1 =>
  nQ (max 0 (r1).toNat) >>= fun u1 =>
  cX (fun k1 (st:(List (List Nat)))=>jW a r1 k1 st) ((max 0 (r1).toNat) - 0) 0 ([]:List (List Nat)) >>= fun l2 =>
  bW a.zn l2 >>= fun r5 =>
  br (⟨(⟨a.zn.zw,r5.2.1,r5.2.2,a.zn.ak⟩:aB),a.zp,a.zd,a.bg,a.bX,a.c8⟩:aC) >>= fun r6 =>
  om 24 r6 r6 ([]:List Bool) >>= fun l8 =>
  cX (fun k3 (st:(List (List Bool)))=>jY r5 r6 k3 st) (l8.length - 0) 0 l8 >>= fun l10 =>
  some (l10,r5.2.1,r5.2.2)
def mM (a:aC) (b:Int) (k1:Nat) (x1:Int):Option Int :=
  dU a.bg b >>= fun x4 =>
  x4[k1]? >>= fun x5 =>
  bif x5 then
    eJ x1 (1:Int) >>= fun x6 =>
    some x6
  else
    dU a.bX b >>= fun x7 =>
    x7[k1]? >>= fun x8 =>
    bif x8 then
      eJ x1 (1:Int) >>= fun x9 =>
      some x9
    else
      some x1
def mR (a:aC) (b:Int):Option Bool :=
  br a >>= fun r1 =>
  nQ (max 0 (r1).toNat) >>= fun u1 =>
  cX (fun k1 (st:Int)=>mM a b k1 st) ((max 0 (r1).toNat) - 0) 0 ((0:Nat):Int) >>= fun x3 =>
  ct a.zn >>= fun r3 =>
  some (decide (x3 > r3.S.T))
def oE (a:aC) (k1:Nat) (l2:List (List Nat)):Option (List (List Nat)) :=
  ct a.zn >>= fun r3 =>
  eJ r3.S.T (1:Int) >>= fun x2 =>
  om 8 x2 x2 (0:Nat) >>= fun l4 =>
  l2[k1]? >>= fun x3 =>
  some (l2.set k1 l4) >>= fun l5 =>
  some l5
def me (a:aC) (b:Int) (c:Int) (d:Bool):Option (List (List Nat)) :=
  bif d then
    gN a c >>= fun r1 =>
    om 24 r1 r1 (([]:List Nat):List Nat) >>= fun l1 =>
    cX (fun k1 (st:(List (List Nat)))=>oE a k1 st) (l1.length - 0) 0 l1 >>= fun l3 =>
    some l3
  else
    dU a.bg c >>= fun x4 =>
    dU x4 b >>= fun x5 =>
    bif x5 then
      dU a.c8 c >>= fun x6 =>
      dU x6 b >>= fun x7 =>
      some x7
    else
      dU a.zd.Rows b >>= fun x8 =>
      dU x8 c >>= fun x9 =>
      cw x9 >>= fun r4 =>
      some r4
def qM (a:aB) (b:ao) (r1:ab) (r3:(List (List Bool)) × Int × (List (List af))) (r4:Int × (List (List af)) × (List (List (List (List Nat))))) (r5:(List (List Bool)) × Int × (List (List af))) (k1:Nat) (l1:List Bool):Option (List Bool) :=
  mR (⟨(⟨a.zw,r5.2.1,r5.2.2,a.ak⟩:aB),r1.S.P,b,r3.1,r5.1,r4.2.2⟩:aC) ((k1:Nat):Int) >>= fun r8 =>
  cW 1 l1 ([r8]:List Bool) >>= fun l3 =>
  some l3
def qO (a:aB) (b:ao) (r1:ab) (r3:(List (List Bool)) × Int × (List (List af))) (r4:Int × (List (List af)) × (List (List (List (List Nat))))) (r5:(List (List Bool)) × Int × (List (List af))) (l2:List Bool) (k2:Nat) (k3:Nat) (l6:List (List (List Nat))):Option (List (List (List Nat))) :=
  l2[k3]? >>= fun x4 =>
  me (⟨(⟨a.zw,r5.2.1,r5.2.2,a.ak⟩:aB),r1.S.P,b,r3.1,r5.1,r4.2.2⟩:aC) ((k2:Nat):Int) ((k3:Nat):Int) x4 >>= fun r11 =>
  cW 24 l6 ([r11]:List (List (List Nat))) >>= fun l8 =>
  some l8
def qN (a:aB) (b:ao) (r1:ab) (r3:(List (List Bool)) × Int × (List (List af))) (r4:Int × (List (List af)) × (List (List (List (List Nat))))) (r5:(List (List Bool)) × Int × (List (List af))) (r6:Int) (l2:List Bool) (k2:Nat) (l4:List (List (List (List Nat)))):Option (List (List (List (List Nat)))) :=
  cX (fun k3 (st:(List (List (List Nat))))=>qO a b r1 r3 r4 r5 l2 k2 k3 st) ((max 0 (r6).toNat) - 0) 0 ([]:List (List (List Nat))) >>= fun l7 =>
  cW 24 l4 ([l7]:List (List (List (List Nat)))) >>= fun l9 =>
  some l9
def nP (a:aB) (b:ao):Option (aW × Int × (List (List af))) :=
  ct a >>= fun r1 =>
  ki (⟨a,r1.S.P,b,([]:List (List Bool)),([]:List (List Bool)),([]:List (List (List (List Nat))))⟩:aC) >>= fun r2 =>
  fx (⟨(⟨a.zw,r2.2.1,r2.2.2,a.ak⟩:aB),r1.S.P,b,([]:List (List Bool)),([]:List (List Bool)),([]:List (List (List (List Nat))))⟩:aC) r2.1 >>= fun r3 =>
  mf (⟨(⟨a.zw,r3.2.1,r3.2.2,a.ak⟩:aB),r1.S.P,b,r3.1,([]:List (List Bool)),([]:List (List (List (List Nat))))⟩:aC) >>= fun r4 =>
  ee (⟨(⟨a.zw,r4.1,r4.2.1,a.ak⟩:aB),r1.S.P,b,r3.1,([]:List (List Bool)),r4.2.2⟩:aC) >>= fun r5 =>
  br (⟨(⟨a.zw,r5.2.1,r5.2.2,a.ak⟩:aB),r1.S.P,b,r3.1,r5.1,r4.2.2⟩:aC) >>= fun r6 =>
  nQ (max 0 (r6).toNat) >>= fun u1 =>
  cX (fun k1 (st:(List Bool))=>qM a b r1 r3 r4 r5 k1 st) ((max 0 (r6).toNat) - 0) 0 ([]:List Bool) >>= fun l2 =>
  cX (fun k2 (st:(List (List (List (List Nat)))))=>qN a b r1 r3 r4 r5 r6 l2 k2 st) ((max 0 (r6).toNat) - 0) 0 ([]:List (List (List (List Nat)))) >>= fun l5 =>
  some ((⟨l5,l2⟩:aW),r5.2.1,r5.2.2)
def mL (a:aB) (b:List (List (List Nat))):Option (aW × Int × (List (List af)) × (List bh)) :=
  jE a b >>= fun r1 =>
  nP (⟨a.zw,r1.2.1,r1.2.2.1,r1.2.2.2⟩:aB) r1.1 >>= fun r2 =>
  some (r2.1,r2.2.1,r2.2.2,r1.2.2.2)
def jR (a:Nat) (x1:List Nat) (k2:Nat):Option (Out Unit Bool) :=
  x1[k2]? >>= fun x2 =>
  bif decide (((x2:Nat):Int) ≥ ((a:Nat):Int)) then
    some (.fin false)
  else
    some (.go ())
def jQ (a:Nat) (b:List (List Nat)) (c:Int) (k1:Nat):Option (Out Unit Bool) :=
  b[k1]? >>= fun x1 =>
  bif decide (((x1.length:Nat):Int) > c) then
    some (.fin false)
  else
    oe (fun k2 (st:Unit)=>jR a x1 k2) (x1.length - 0) 0 () >>= fun r2=>kN r2 (fun x=>some (.fin x)) fun _ =>
    some (.go ())
def il (a:Nat) (b:List (List Nat)) (c:Int):Option Bool :=
  oe (fun k1 (st:Unit)=>jQ a b c k1) (b.length - 0) 0 () >>= fun r1=>kN r1 (fun x=>some x) fun _ =>
  some true
def nf (a:bi) (x3:List (List Nat)) (k3:Nat):Option (Out Unit Bool) :=
  x3[k3]? >>= fun x5 =>
  eJ a.T (1:Int) >>= fun x6 =>
  bif ((x5.length:Nat):Int) != x6 then
    some (.fin false)
  else
    il a.P x3 x6 >>= fun r4 =>
    bif !r4 then
      some (.fin false)
    else
      some (.go ())
def nb (a:bi) (b:List Int) (x2:List (List (List Nat))) (k2:Nat):Option (Out Unit Bool) :=
  x2[k2]? >>= fun x3 =>
  b[k2]? >>= fun x4 =>
  bif ((x3.length:Nat):Int) != x4 then
    some (.fin false)
  else
    nQ (max 0 (x4).toNat) >>= fun u2 =>
    oe (fun k3 (st:Unit)=>nf a x3 k3) ((max 0 (x4).toNat) - 0) 0 () >>= fun r3=>kN r3 (fun x=>some (.fin x)) fun _ =>
    some (.go ())
def na (a:bi) (b:aW) (c:List Int) (k1:Nat):Option (Out Unit Bool) :=
  b.Rows[k1]? >>= fun x2 =>
  bif ((x2.length:Nat):Int) != a.N then
    some (.fin false)
  else
    oe (fun k2 (st:Unit)=>nb a c x2 k2) ((max 0 (a.N).toNat) - 0) 0 () >>= fun r2=>kN r2 (fun x=>some (.fin x)) fun _ =>
    some (.go ())
def iP (a:bi) (b:aW) (c:List Int):Option Bool :=
  (
    bif ((b.Rows.length:Nat):Int) != a.N then
      some true
    else
      bif ((b.bd.length:Nat):Int) != a.N then
        some true
      else
        some (((c.length:Nat):Int) != a.N)
  ) >>= fun x1 =>
  bif x1 then
    some false
  else
    nQ (max 0 (a.N).toNat) >>= fun u1 =>
    oe (fun k1 (st:Unit)=>na a b c k1) ((max 0 (a.N).toNat) - 0) 0 () >>= fun r1=>kN r1 (fun x=>some x) fun _ =>
    some true
def ui (a:aW) (b:Int) (c:Int) (k1:Nat) (l1:List (List Nat)):Option (List (List Nat)) :=
  a.Rows[k1]? >>= fun x2 =>
  gJ b (1:Int) >>= fun x3 =>
  dU x2 x3 >>= fun x4 =>
  dU x4 c >>= fun x5 =>
  cW 24 l1 ([x5]:List (List Nat)) >>= fun l3 =>
  some l3
def sJ (a:aW) (b:Int) (c:Int):Option (List (List Nat)) :=
  cX (fun k1 (st:(List (List Nat)))=>ui a b c k1 st) (a.Rows.length - 0) 0 ([]:List (List Nat)) >>= fun l2 =>
  some l2
def m8 (a:List Nat) (b:List Nat) (k1:Nat):Option (Out Unit Bool) :=
  a[k1]? >>= fun x1 =>
  b[k1]? >>= fun x2 =>
  bif ((x1:Nat):Int) != ((x2:Nat):Int) then
    some (.fin false)
  else
    some (.go ())
def iM (a:List Nat) (b:List Nat):Option Bool :=
  bif ((a.length:Nat):Int) != ((b.length:Nat):Int) then
    some false
  else
    oe (fun k1 (st:Unit)=>m8 a b k1) (a.length - 0) 0 () >>= fun r1=>kN r1 (fun x=>some x) fun _ =>
    some true
def oV (a:List (List Nat)) (b:List (List Nat)) (k1:Nat):Option (Out Unit Bool) :=
  a[k1]? >>= fun x1 =>
  b[k1]? >>= fun x2 =>
  iM x1 x2 >>= fun r2 =>
  bif !r2 then
    some (.fin false)
  else
    some (.go ())
def mn (a:List (List Nat)) (b:List (List Nat)):Option Bool :=
  bif ((a.length:Nat):Int) != ((b.length:Nat):Int) then
    some false
  else
    oe (fun k1 (st:Unit)=>oV a b k1) (a.length - 0) 0 () >>= fun r1=>kN r1 (fun x=>some x) fun _ =>
    some true
def oA (a:List (List Nat)) (b:List (List Nat)):Option Bool :=
  mn a b >>= fun r1 =>
  some r1
def jr (a:aB):Option Int :=
  some a.ai
def lx  : Option Bool :=
  oc >>= fun r1 =>
  m7 r1.1 >>= fun r2 =>
  yA r2 (fun r3 =>
    some false)
  (fun r4 =>
    mL r4 r1.2 >>= fun r5 =>
    iP r1.1.S r5.1 ([((1:Nat):Int),((0:Nat):Int),((0:Nat):Int),((0:Nat):Int)]:List Int) >>= fun r6 =>
    bif !r6 then
      some false
    else
      sJ r5.1 ((1:Nat):Int) ((0:Nat):Int) >>= fun r7 =>
      oA r7 ([([8,10]:List Nat),([11,17]:List Nat),([14,24]:List Nat),([17,0]:List Nat)]:List (List Nat)) >>= fun r8 =>
      bif r8 then
        r5.1.bd[0]? >>= fun x1 =>
        bif !x1 then
          r5.1.bd[3]? >>= fun x2 =>
          bif !x2 then
            jr (⟨r4.zw,r5.2.1,r5.2.2.1,r5.2.2.2⟩:aB) >>= fun r9 =>
            some (r9 == (7:Int))
          else
            some false
        else
          some false
      else
        some false)
def lW  : Option (List Int) :=
  some ([((5:Nat):Int),((7:Nat):Int),((13:Nat):Int),((17:Nat):Int),((19:Nat):Int),((31:Nat):Int),((61:Nat):Int)]:List Int)
def gr (a:Nat) (r1:(List Int)) (k1:Nat):Option (Out Unit Int) :=
  r1[k1]? >>= fun x1 =>
  some (mu x1) >>= fun x2 =>
  zx 1 ((x2:Nat):Int) >>= fun x3 =>
  some (yz x3 1) >>= fun x4 =>
  bif ((a:Nat):Int) == ((x4:Nat):Int) then
    some (.fin x1)
  else
    some (.go ())
def jN (a:Nat):Option Int :=
  lW >>= fun r1 =>
  oe (fun k1 (st:Unit)=>gr a r1 k1) (r1.length - 0) 0 () >>= fun r2=>kN r2 (fun x=>some x) fun _ =>
  some ((0:Nat):Int)
def gP (a:Nat):Option Bool :=
  jN a >>= fun r1 =>
  some (decide (r1 > (0:Int)))
def ij (a:bi):Option Bool :=
  gP a.P >>= fun r1 =>
  bif r1 then
    bif decide (a.N ≥ (4:Int)) then
      bif decide (a.N≤(13:Int)) then
        some (mu a.N) >>= fun x1 =>
        bif decide (((x1:Nat):Int) < ((a.P:Nat):Int)) then
          bif decide (a.T ≥ (1:Int)) then
            bif decide (a.T < a.N) then
              lU (3:Int) a.T >>= fun x2 =>
              some (decide (x2 < a.N))
            else
              some false
          else
            some false
        else
          some false
      else
        some false
    else
      some false
  else
    some false
def gk (a:bi) (b:List Int) (k1:Nat):Option (Out Unit Bool) :=
  b[k1]? >>= fun x2 =>
  bif decide (x2 < (1:Int)) then
    some (.fin false)
  else
    bif decide (x2 > a.N) then
      some (.fin false)
    else
      bif decide (((k1:Nat):Int) > (0:Int)) then
        gJ ((k1:Nat):Int) (1:Int) >>= fun x3 =>
        dU b x3 >>= fun x4 =>
        bif decide (x2≤x4) then
          some (.fin false)
        else
          some (.go ())
      else
        some (.go ())
def ff (a:bi) (b:List Int):Option Bool :=
  (
    ij a >>= fun r1 =>
    bif !r1 then
      some true
    else
      some (decide (((b.length:Nat):Int) > a.T))
  ) >>= fun x1 =>
  bif x1 then
    some false
  else
    oe (fun k1 (st:Unit)=>gk a b k1) (b.length - 0) 0 () >>= fun r2=>kN r2 (fun x=>some x) fun _ =>
    some true
def gS (a:bi) (b:aT):Option Bool :=
  bif decide (b.Round ≥ (0:Int)) then
    bif decide (b.At ≥ (0:Int)) then
      bif decide (b.aX ≥ (0:Int)) then
        bif decide (b.From ≥ (1:Int)) then
          bif decide (b.From≤a.N) then
            bif decide (b.To ≥ (0:Int)) then
              bif decide (b.To≤a.N) then
                bif decide (b.Kind ≥ (1:Int)) then
                  bif decide (b.Kind≤(4:Int)) then
                    bif decide (b.Of ≥ (0:Int)) then
                      bif decide (b.Of≤a.N) then
                        bif b.Kind != (3:Int) then
                          some true
                        else
                          some (decide (b.Of ≥ (1:Int)))
                      else
                        some false
                    else
                      some false
                  else
                    some false
                else
                  some false
              else
                some false
            else
              some false
          else
            some false
        else
          some false
      else
        some false
    else
      some false
  else
    some false
def jO (a:Nat) (b:List Nat) (k1:Nat):Option (Out Unit Bool) :=
  b[k1]? >>= fun x1 =>
  bif decide (((x1:Nat):Int) ≥ ((a:Nat):Int)) then
    some (.fin false)
  else
    some (.go ())
def jv (a:Nat) (b:List Nat):Option Bool :=
  oe (fun k1 (st:Unit)=>jO a b k1) (b.length - 0) 0 () >>= fun r1=>kN r1 (fun x=>some x) fun _ =>
  some true
def gA (a:ab) (k1:Nat):Option (Out Unit Bool) :=
  a.aa[k1]? >>= fun x2 =>
  gS a.S x2 >>= fun r4 =>
  bif !r4 then
    some (.fin false)
  else
    some (.go ())
def gB (a:ab) (k2:Nat):Option (Out Unit Bool) :=
  a.av[k2]? >>= fun x3 =>
  jv a.S.P x3 >>= fun r6 =>
  bif !r6 then
    some (.fin false)
  else
    some (.go ())
def cu (a:ab):Option Bool :=
  (
    ij a.S >>= fun r1 =>
    bif !r1 then
      some true
    else
      ff a.S a.ah >>= fun r2 =>
      bif !r2 then
        some true
      else
        some (((a.av.length:Nat):Int) != a.S.N)
  ) >>= fun x1 =>
  bif x1 then
    some false
  else
    oe (fun k1 (st:Unit)=>gA a k1) (a.aa.length - 0) 0 () >>= fun r3=>kN r3 (fun x=>some x) fun _ =>
    oe (fun k2 (st:Unit)=>gB a k2) (a.av.length - 0) 0 () >>= fun r5=>kN r5 (fun x=>some x) fun _ =>
    some true
def jP (a:ab) (b:Int) (k1:Nat):Option (Out Unit Bool) :=
  a.av[k1]? >>= fun x2 =>
  bif decide (((x2.length:Nat):Int) > b) then
    some (.fin false)
  else
    some (.go ())
def jw (a:ab) (b:Int) (c:Int) (d:Int):Option Bool :=
  (
    bif decide (a.S.N > b) then
      some true
    else
      bif decide (((a.aa.length:Nat):Int) > c) then
        some true
      else
        some (decide (((a.av.length:Nat):Int) > b))
  ) >>= fun x1 =>
  bif x1 then
    some false
  else
    oe (fun k1 (st:Unit)=>jP a d k1) (a.av.length - 0) 0 () >>= fun r1=>kN r1 (fun x=>some x) fun _ =>
    cu a >>= fun r2 =>
    some r2
def kf (a:bi):Option Int :=
  eJ a.T (1:Int) >>= fun x1 =>
  lU a.T x1 >>= fun x2 =>
  xJ x2 (2:Int) >>= fun x3 =>
  some x3
def kC (a:ab) (b:List (List (List Nat))) (k1:Nat) (x6:Int):Option (Out Int (Bool ⊕ Unit)) :=
  b[k1]? >>= fun x7 =>
  bif decide (x6 < ((x7.length:Nat):Int)) then
    dU x7 x6 >>= fun x8 =>
    eJ a.S.T (1:Int) >>= fun x9 =>
    bif ((x8.length:Nat):Int) != x9 then
      some (.fin (.inl false))
    else
      il a.S.P x7 x9 >>= fun r5 =>
      bif !r5 then
        some (.fin (.inl false))
      else
        eJ x6 (1:Int) >>= fun x10 =>
        some (.go x10)
  else
    some (.fin (.inr ()))
def kB (a:ab) (b:List (List (List Nat))) (c:Int) (k1:Nat):Option (Out Unit Bool) :=
  (
    b[k1]? >>= fun x3 =>
    bif decide (((x3.length:Nat):Int) > c) then
      some true
    else
      a.av[k1]? >>= fun x4 =>
      kf a.S >>= fun r3 =>
      lU ((x3.length:Nat):Int) r3 >>= fun x5 =>
      some (decide (((x4.length:Nat):Int) < x5))
  ) >>= fun x2 =>
  bif x2 then
    some (.fin false)
  else
    qJ (fun (st:Int)=>kC a b k1 st) big ((0:Nat):Int) >>= fun r4=>Gd r4 (fun x=>some (.fin x)) fun _ =>
    some (.go ())
def ka (a:ab) (b:List (List (List Nat))) (c:Int) (d:Int) (e:Int):Option Bool :=
  (
    jw a c d ((60:Nat):Int) >>= fun r1 =>
    bif !r1 then
      some true
    else
      some (((b.length:Nat):Int) != a.S.N)
  ) >>= fun x1 =>
  bif x1 then
    some false
  else
    oe (fun k1 (st:Unit)=>kB a b e k1) (b.length - 0) 0 () >>= fun r2=>kN r2 (fun x=>some x) fun _ =>
    some true
def ng (a:List (List (List Nat))) (k1:Nat) (l1:List Int):Option (List Int) :=
  a[k1]? >>= fun x2 =>
  cW 8 l1 ([((x2.length:Nat):Int)]:List Int) >>= fun l3 =>
  some l3
def kb (a:List (List (List Nat))):Option (List Int) :=
  cX (fun k1 (st:(List Int))=>ng a k1 st) (a.length - 0) 0 ([]:List Int) >>= fun l2 =>
  some l2
def kO (a:cK):Option (aW ⊕ (aB × aW × Bool)) :=
  m7 a.W >>= fun r1 =>
  yA r1 (fun r2 =>
    some (.inl (⟨([]:List (List (List (List Nat)))),([]:List Bool)⟩:aW)))
  (fun r3 =>
    mL r3 a.Q >>= fun r4 =>
    kb a.Q >>= fun r5 =>
    iP a.W.S r4.1 r5 >>= fun r6 =>
    some (.inr ((⟨r3.zw,r4.2.1,r4.2.2.1,r4.2.2.2⟩:aB),r4.1,r6)))
def mI (a:List Nat):Option aA :=
  cW 8 ([]:List Nat) a >>= fun l1 =>
  some (⟨l1,((0:Nat):Int)⟩:aA)
def nG (a:ab) (k1:Nat) (l2:List aA):Option (List aA) :=
  a.av[k1]? >>= fun x2 =>
  mI x2 >>= fun r3 =>
  cW 8 l2 ([r3]:List aA) >>= fun l4 =>
  some l4
def jb (a:ab):Option (Unit ⊕ au) :=
  cu a >>= fun r1 =>
  bif !r1 then
    some (.inl ())
  else
    om 24 a.S.N a.S.N ([]:List af) >>= fun l1 =>
    nQ (max 0 (a.S.N).toNat) >>= fun u1 =>
    cX (fun k1 (st:(List aA))=>nG a k1 st) ((max 0 (a.S.N).toNat) - 0) 0 ([]:List aA) >>= fun l3 =>
    some (.inr (⟨a,((0:Nat):Int),l1,l3⟩:au))
def bL (a:au):Option ab :=
  some a.zw
def iu (a:au) (b:Int):Option Nat :=
  gJ b (1:Int) >>= fun x1 =>
  dU a.ak x1 >>= fun x2 =>
  some x1.toNat
def j8 (a:Int):Option Int :=
  eJ a (1:Int) >>= fun x1 =>
  lU a x1 >>= fun x2 =>
  xJ x2 (2:Int) >>= fun x3 =>
  some x3
def gQ (a:aA):Option Int :=
  gJ ((a.j5.length:Nat):Int) a.At >>= fun x1 =>
  some x1
def gR (a:aA) (b:Int):Option ((List Nat) × Int × Int) :=
  (
    bif decide (b < (0:Int)) then
      some true
    else
      gQ a >>= fun r1 =>
      some (decide (b > r1))
  ) >>= fun x1 =>
  bif x1 then
    some (([]:List Nat),((10:Nat):Int),a.At)
  else
    eJ a.At b >>= fun x2 =>
    rq a.j5 a.At x2 >>= fun l1 =>
    cW 8 ([]:List Nat) l1 >>= fun l2 =>
    some (l2,((0:Nat):Int),x2)
def sA (x6:Int) (k1:Nat) (l2:List (List Nat)):Option (List (List Nat)) :=
  om 8 x6 x6 (0:Nat) >>= fun l4 =>
  l2[k1]? >>= fun x8 =>
  some (l2.set k1 l4) >>= fun l5 =>
  some l5
def kU (a:List Nat) (x1:Int) (k2:Nat) (l12:List (List Nat)) (x19:Int) (x20:Int):Option (Out ((List (List Nat)) × Int × Int) ((List (List Nat)) × Int)) :=
  (
    bif decide (x20≤x1) then
      some (decide (((k2:Nat):Int) > (0:Int)))
    else
      some false
  ) >>= fun x23 =>
  bif x23 then
    l12[k2]? >>= fun x24 =>
    dU l12 x20 >>= fun x25 =>
    dU a x19 >>= fun x26 =>
    dU x24 x20 >>= fun x27 =>
    some (x24.set x20.toNat x26) >>= fun l15 =>
    some (l12.set k2 l15) >>= fun l16 =>
    x25[k2]? >>= fun x28 =>
    dU l16 x20 >>= fun x29 =>
    x29[k2]? >>= fun x30 =>
    some (x29.set k2 x26) >>= fun l17 =>
    some (l16.set x20.toNat l17) >>= fun l18 =>
    eJ x19 (1:Int) >>= fun x31 =>
    eJ x20 (1:Int) >>= fun x32 =>
    some (.go (l18,x31,x32))
  else
    some (.fin (l12,x19))
def kT (a:List Nat) (b:List Nat) (x1:Int) (k2:Nat) (l6:List (List Nat)) (x9:Int):Option ((List (List Nat)) × Int) :=
  l6[0]? >>= fun x12 =>
  l6[k2]? >>= fun x13 =>
  a[k2]? >>= fun x14 =>
  x12[k2]? >>= fun x15 =>
  some (x12.set k2 x14) >>= fun l8 =>
  some (l6.set 0 l8) >>= fun l9 =>
  x13[0]? >>= fun x16 =>
  l9[k2]? >>= fun x17 =>
  x17[0]? >>= fun x18 =>
  some (x17.set 0 x14) >>= fun l10 =>
  some (l9.set k2 l10) >>= fun l11 =>
  qJ (fun (st:(List (List Nat)) × Int × Int)=>kU b x1 k2 st.1 st.2.1 st.2.2) big (l11,x9,((k2:Nat):Int)) >>= fun (l14,x22) =>
  some (l14,x22)
def gj (a:List Nat) (b:List Nat):Option ((List (List Nat)) × Int) :=
  gJ ((a.length:Nat):Int) (1:Int) >>= fun x1 =>
  (
    bif decide (x1 < (0:Int)) then
      some true
    else
      eJ x1 (1:Int) >>= fun x3 =>
      lU x1 x3 >>= fun x4 =>
      xJ x4 (2:Int) >>= fun x5 =>
      some (((b.length:Nat):Int) != x5)
  ) >>= fun x2 =>
  bif x2 then
    some (([]:List (List Nat)),((1:Nat):Int))
  else
    eJ x1 (1:Int) >>= fun x6 =>
    om 24 x6 x6 ([]:List Nat) >>= fun l1 =>
    nQ (max 0 (x1+1).toNat) >>= fun u1 =>
    cX (fun k1 (st:(List (List Nat)))=>sA x6 k1 st) ((max 0 (x1+1).toNat) - 0) 0 l1 >>= fun l3 =>
    cX (fun k2 (st:(List (List Nat)) × Int)=>kT a b x1 k2 st.1 st.2) ((max 0 (x1+1).toNat) - 0) 0 (l3,((0:Nat):Int)) >>= fun (l7,x11) =>
    some (l7,((0:Nat):Int))
def dy (a:au) (b:List (List (List Nat))) (r1:ab) (k1:Nat) (l6:List aA) (l7:List (List (List (List Nat)))) (x2:Int):Option (Out ((List aA) × (List (List (List (List Nat)))) × Int) ((List aA) × (List (List (List (List Nat)))))) :=
  b[k1]? >>= fun x3 =>
  bif decide (x2 < ((x3.length:Nat):Int)) then
    eJ ((k1:Nat):Int) (1:Int) >>= fun x4 =>
    iu (⟨a.zw,a.ai,a.am,l6⟩:au) x4 >>= fun r4 =>
    j8 r1.S.T >>= fun r5 =>
    l6[r4]? >>= fun x5 =>
    gR x5 r5 >>= fun r6 =>
    some (l6.set r4 (⟨x5.j5,r6.2.2⟩:aA)) >>= fun l12 =>
    dU x3 x2 >>= fun x6 =>
    gj x6 r6.1 >>= fun r7 =>
    l7[k1]? >>= fun x7 =>
    cW 24 x7 ([r7.1]:List (List (List Nat))) >>= fun l13 =>
    some (l7.set k1 l13) >>= fun l14 =>
    eJ x2 (1:Int) >>= fun x8 =>
    some (.go (l12,l14,x8))
  else
    some (.fin (l6,l7))
def dx (a:au) (b:List (List (List Nat))) (r1:ab) (k1:Nat) (l2:List aA) (l3:List (List (List (List Nat)))):Option ((List aA) × (List (List (List (List Nat))))) :=
  qJ (fun (st:(List aA) × (List (List (List (List Nat)))) × Int)=>dy a b r1 k1 st.1 st.2.1 st.2.2) big (l2,l3,((0:Nat):Int)) >>= fun (l10,l11) =>
  some (l10,l11)
def iw (a:au) (b:List (List (List Nat))):Option ((List (List (List (List Nat)))) × (List (List af)) × (List aA)) :=
  bL a >>= fun r1 =>
  om 24 ((b.length:Nat):Int) ((b.length:Nat):Int) ([]:List (List (List Nat))) >>= fun l1 =>
  cX (fun k1 (st:(List aA) × (List (List (List (List Nat)))))=>dx a b r1 k1 st.1 st.2) (b.length - 0) 0 (a.ak,l1) >>= fun (l4,l5) =>
  some (l5,a.am,l4)
def fF (a:Nat) (x1:Nat) (x2:Nat) (x3:Nat):Option (Out (Nat × Nat × Nat) Nat) :=
  bif decide (((x2:Nat):Int) > (0:Int)) then
    rF x2 2 >>= fun x6 =>
    bif ((x6:Nat):Int) == (1:Int) then
      some (mV x3 x1) >>= fun x7 =>
      rF x7 a >>= fun x8 =>
      some (mV x1 x1) >>= fun x9 =>
      rF x9 a >>= fun x10 =>
      A5 x2 2 >>= fun x11 =>
      some (.go (x10,x11,x8))
    else
      some (mV x1 x1) >>= fun x12 =>
      rF x12 a >>= fun x13 =>
      A5 x2 2 >>= fun x14 =>
      some (.go (x13,x14,x3))
  else
    some (.fin x3)
def gi (a:Nat) (b:Nat) (c:Nat):Option Nat :=
  qJ (fun (st:Nat × Nat × Nat)=>fF a st.1 st.2.1 st.2.2) big (b,c,0) >>= fun x5 =>
  some x5
def gf (a:Nat) (b:Nat) (c:Nat):Option Nat :=
  some (mV b c) >>= fun x1 =>
  rF x1 a >>= fun x2 =>
  some x2
def eL (a:Nat) (b:List Nat) (c:Nat) (x2:Nat) (x3:Int):Option (Out (Nat × Int) Nat) :=
  bif decide (x3 ≥ (0:Int)) then
    gi a x2 c >>= fun r2 =>
    dU b x3 >>= fun x6 =>
    gf a r2 x6 >>= fun r3 =>
    gJ x3 (1:Int) >>= fun x7 =>
    some (.go (r3,x7))
  else
    some (.fin x2)
def e7 (a:Nat) (b:List Nat) (c:Nat):Option Nat :=
  gJ ((b.length:Nat):Int) (1:Int) >>= fun x1 =>
  qJ (fun (st:Nat × Int)=>eL a b c st.1 st.2) big (0,x1) >>= fun x5 =>
  some x5
def kV (a:List (List Nat)) (k1:Nat) (k2:Nat) (l3:List Nat):Option (List Nat) :=
  a[k2]? >>= fun x3 =>
  x3[k1]? >>= fun x4 =>
  cW 8 l3 ([x4]:List Nat) >>= fun l5 =>
  some l5
def iZ (a:Nat) (b:List (List Nat)) (c:Nat) (k1:Nat) (l1:List Nat):Option (List Nat) :=
  cX (fun k2 (st:(List Nat))=>kV b k1 k2 st) (b.length - 0) 0 ([]:List Nat) >>= fun l4 =>
  e7 a l4 c >>= fun r3 =>
  cW 8 l1 ([r3]:List Nat) >>= fun l6 =>
  some l6
def fb (a:Nat) (b:List (List Nat)) (c:Nat):Option (List Nat) :=
  cX (fun k1 (st:(List Nat))=>iZ a b c k1 st) (b.length - 0) 0 ([]:List Nat) >>= fun l2 =>
  some l2
def kW (a:ab) (b:Int) (k1:Nat):Option (Out Unit Bool) :=
  a.ah[k1]? >>= fun x1 =>
  bif x1 == b then
    some (.fin true)
  else
    some (.go ())
def fc (a:ab) (b:Int):Option Bool :=
  oe (fun k1 (st:Unit)=>kW a b k1) (a.ah.length - 0) 0 () >>= fun r1=>kN r1 (fun x=>some x) fun _ =>
  some false
def ik (a:List (List (List Nat))) (b:aT):Option (List Nat) :=
  bif decide (b.Of < (1:Int)) then
    some ([]:List Nat)
  else
    gJ b.Of (1:Int) >>= fun x1 =>
    dU a x1 >>= fun x2 =>
    gJ b.From (1:Int) >>= fun x3 =>
    dU x2 x3 >>= fun x4 =>
    some x4
def lX (a:List Nat) (b:Int):Option Nat :=
  bif decide (b < (0:Int)) then
    some 0
  else
    bif decide (b ≥ ((a.length:Nat):Int)) then
      some 0
    else
      dU a b >>= fun x1 =>
      some x1
def iO (a:ab) (b:aT) (c:List Nat) (d:List Nat):Option (List Nat) :=
  bif b.Kind == (4:Int) then
    some ([]:List Nat)
  else
    (
      bif decide (b.At < (0:Int)) then
        some true
      else
        some (decide (b.At ≥ ((c.length:Nat):Int)))
    ) >>= fun x1 =>
    bif x1 then
      some c
    else
      cW 8 ([]:List Nat) c >>= fun l1 =>
      rF b.K a.S.P >>= fun x2 =>
      bif b.Kind == (1:Int) then
        dU l1 b.At >>= fun x3 =>
        some (l1.set b.At.toNat x2) >>= fun l2 =>
        some l2
      else
        bif b.Kind == (2:Int) then
          dU l1 b.At >>= fun x4 =>
          gf a.S.P x4 x2 >>= fun r1 =>
          some (l1.set b.At.toNat r1) >>= fun l3 =>
          some l3
        else
          bif b.Kind == (3:Int) then
            fc a b.Of >>= fun r2 =>
            bif !r2 then
              dU l1 b.At >>= fun x5 =>
              lX d b.aX >>= fun r3 =>
              rF r3 a.S.P >>= fun x6 =>
              gi a.S.P x2 x6 >>= fun r4 =>
              gf a.S.P x5 r4 >>= fun r5 =>
              some (l1.set b.At.toNat r5) >>= fun l4 =>
              some l4
            else
              some l1
          else
            some l1
def fN (a:List (List (List Nat))) (k1:Nat) (l1:List (List (List Nat))):Option (List (List (List Nat))) :=
  a[k1]? >>= fun x2 =>
  cW 24 ([]:List (List Nat)) x2 >>= fun l3 =>
  cW 24 l1 ([l3]:List (List (List Nat))) >>= fun l4 =>
  some l4
def fP (a:ab) (b:List (List (List Nat))) (x4:aT) (k3:Nat) (l7:List (List (List Nat))):Option (List (List (List Nat))) :=
  (
    bif ((k3:Nat):Int) != x4.From then
      bif x4.To == (0:Int) then
        some true
      else
        some (x4.To == ((k3:Nat):Int))
    else
      some false
  ) >>= fun x7 =>
  bif x7 then
    gJ x4.From (1:Int) >>= fun x8 =>
    dU l7 x8 >>= fun x9 =>
    gJ ((k3:Nat):Int) (1:Int) >>= fun x10 =>
    dU x9 x10 >>= fun x11 =>
    ik b x4 >>= fun r5 =>
    iO a x4 x11 r5 >>= fun r6 =>
    some (x9.set x10.toNat r6) >>= fun l9 =>
    some (l7.set x8.toNat l9) >>= fun l10 =>
    some l10
  else
    some l7
def fO (a:ab) (b:Int) (c:List (List (List Nat))) (k2:Nat) (l5:List (List (List Nat))):Option (List (List (List Nat))) :=
  a.aa[k2]? >>= fun x4 =>
  (
    bif x4.Round != b then
      some true
    else
      fc a x4.From >>= fun r3 =>
      some (!r3)
  ) >>= fun x5 =>
  bif x5 then
    some l5
  else
    nQ (max 1 (a.S.N+1).toNat) >>= fun u1 =>
    cX (fun k3 (st:(List (List (List Nat))))=>fP a c x4 k3 st) ((max 1 (a.S.N+1).toNat) - 1) 1 l5 >>= fun l8 =>
    some l8
def e6 (a:ab) (b:Int) (c:List (List (List Nat))):Option (List (List (List Nat))) :=
  cX (fun k1 (st:(List (List (List Nat))))=>fN c k1 st) (c.length - 0) 0 ([]:List (List (List Nat))) >>= fun l2 =>
  cX (fun k2 (st:(List (List (List Nat))))=>fO a b c k2 st) (a.aa.length - 0) 0 l2 >>= fun l6 =>
  some l6
def fT (a:au) (b:Int) (c:Int) (d:List Nat):Option (List (List af)) :=
  (
    bif c != b then
      some (decide (((d.length:Nat):Int) > (0:Int)))
    else
      some false
  ) >>= fun x1 =>
  bif x1 then
    dU a.am b >>= fun x2 =>
    eJ c (1:Int) >>= fun x3 =>
    cW 40 x2 ([(⟨a.ai,x3,d⟩:af)]:List af) >>= fun l1 =>
    some (a.am.set b.toNat l1) >>= fun l2 =>
    some l2
  else
    some a.am
def gu (a:au) (r1:(List (List (List Nat)))) (k1:Nat) (k2:Nat) (l6:List (List af)) (l7:List (List (List Nat))):Option ((List (List af)) × (List (List (List Nat)))) :=
  r1[k2]? >>= fun x3 =>
  x3[k1]? >>= fun x4 =>
  cW 8 ([]:List Nat) x4 >>= fun l10 =>
  l7[k1]? >>= fun x5 =>
  cW 24 x5 ([l10]:List (List Nat)) >>= fun l11 =>
  some (l7.set k1 l11) >>= fun l12 =>
  fT (⟨a.zw,a.ai,l6,a.ak⟩:au) ((k1:Nat):Int) ((k2:Nat):Int) l10 >>= fun r4 =>
  some (r4,l12)
def gt (a:au) (r1:(List (List (List Nat)))) (k1:Nat) (l2:List (List af)) (l3:List (List (List Nat))):Option ((List (List af)) × (List (List (List Nat)))) :=
  cX (fun k2 (st:(List (List af)) × (List (List (List Nat))))=>gu a r1 k1 k2 st.1 st.2) ((max 0 (a.zw.S.N).toNat) - 0) 0 (l2,l3) >>= fun (l8,l9) =>
  some (l8,l9)
def eM (a:au) (b:List (List (List Nat))):Option ((List (List (List Nat))) × Int × (List (List af))) :=
  e6 a.zw a.ai b >>= fun r1 =>
  om 24 a.zw.S.N a.zw.S.N ([]:List (List Nat)) >>= fun l1 =>
  nQ (max 0 (a.zw.S.N).toNat) >>= fun u1 =>
  cX (fun k1 (st:(List (List af)) × (List (List (List Nat))))=>gt a r1 k1 st.1 st.2) ((max 0 (a.zw.S.N).toNat) - 0) 0 (a.am,l1) >>= fun (l4,l5) =>
  eJ a.ai (1:Int) >>= fun x6 =>
  some (l5,x6,l4)
def dY (a:List Nat) (b:Int) (l2:List Nat) (x1:Int):Option (Out ((List Nat) × Int) (List Nat)) :=
  (
    bif decide (x1 < b) then
      some (decide (x1 < ((a.length:Nat):Int)))
    else
      some false
  ) >>= fun x2 =>
  bif x2 then
    dU a x1 >>= fun x3 =>
    dU l2 x1 >>= fun x4 =>
    some (l2.set x1.toNat x3) >>= fun l5 =>
    eJ x1 (1:Int) >>= fun x5 =>
    some (.go (l5,x5))
  else
    some (.fin l2)
def da (a:List Nat) (b:Int):Option (List Nat) :=
  om 8 b b (0:Nat) >>= fun l1 =>
  qJ (fun (st:(List Nat) × Int)=>dY a b st.1 st.2) big (l1,((0:Nat):Int)) >>= fun l4 =>
  some l4
def fe (a:List (List (List (List Nat)))) (r1:ab) (k1:Nat) (k2:Nat) (l8:List (List (List Nat))) (x4:Int):Option (Out ((List (List (List Nat))) × Int) (List (List (List Nat)))) :=
  a[k1]? >>= fun x5 =>
  bif decide (x4 < ((x5.length:Nat):Int)) then
    l8[k1]? >>= fun x6 =>
    x6[k2]? >>= fun x7 =>
    dU x5 x4 >>= fun x8 =>
    eJ ((k2:Nat):Int) (1:Int) >>= fun x9 =>
    some (mu x9) >>= fun x10 =>
    fb r1.S.P x8 x10 >>= fun r5 =>
    cW 8 x7 r5 >>= fun l11 =>
    some (x6.set k2 l11) >>= fun l12 =>
    some (l8.set k1 l12) >>= fun l13 =>
    eJ x4 (1:Int) >>= fun x11 =>
    some (.go (l13,x11))
  else
    some (.fin l8)
def dP (a:List (List (List (List Nat)))) (r1:ab) (k1:Nat) (k2:Nat) (l6:List (List (List Nat))):Option (List (List (List Nat))) :=
  qJ (fun (st:(List (List (List Nat))) × Int)=>fe a r1 k1 k2 st.1 st.2) big (l6,((0:Nat):Int)) >>= fun l10 =>
  some l10
def gC (a:List (List (List (List Nat)))) (r1:ab) (k1:Nat) (l2:List (List (List Nat))):Option (List (List (List Nat))) :=
  om 24 r1.S.N r1.S.N ([]:List Nat) >>= fun l4 =>
  l2[k1]? >>= fun x2 =>
  some (l2.set k1 l4) >>= fun l5 =>
  cX (fun k2 (st:(List (List (List Nat))))=>dP a r1 k1 k2 st) ((max 0 (r1.S.N).toNat) - 0) 0 l5 >>= fun l7 =>
  some l7
def kA (x17:Int) (r9:(List Nat)) (k6:Nat) (l19:List (List Nat)):Option (List (List Nat)) :=
  lU ((k6:Nat):Int) x17 >>= fun x20 =>
  eJ ((k6:Nat):Int) (1:Int) >>= fun x21 =>
  lU x21 x17 >>= fun x22 =>
  rq r9 x20 x22 >>= fun l21 =>
  cW 24 l19 ([l21]:List (List Nat)) >>= fun l22 =>
  some l22
def m9 (a:List (List (List (List Nat)))) (r1:ab) (r6:(List (List (List Nat))) × Int × (List (List af))) (k4:Nat) (k5:Nat) (l17:List (List (List (List Nat)))):Option (List (List (List (List Nat)))) :=
  r6.1[k4]? >>= fun x14 =>
  x14[k5]? >>= fun x15 =>
  a[k5]? >>= fun x16 =>
  eJ r1.S.T (1:Int) >>= fun x17 =>
  lU ((x16.length:Nat):Int) x17 >>= fun x18 =>
  da x15 x18 >>= fun r9 =>
  cX (fun k6 (st:(List (List Nat)))=>kA x17 r9 k6 st) (x16.length - 0) 0 ([]:List (List Nat)) >>= fun l20 =>
  l17[k4]? >>= fun x23 =>
  cW 24 x23 ([l20]:List (List (List Nat))) >>= fun l23 =>
  some (l17.set k4 l23) >>= fun l24 =>
  some l24
def kz (a:List (List (List (List Nat)))) (r1:ab) (r6:(List (List (List Nat))) × Int × (List (List af))) (k4:Nat) (l15:List (List (List (List Nat)))):Option (List (List (List (List Nat)))) :=
  cX (fun k5 (st:(List (List (List (List Nat)))))=>m9 a r1 r6 k4 k5 st) ((max 0 (r1.S.N).toNat) - 0) 0 l15 >>= fun l18 =>
  some l18
def j9 (a:au) (b:List (List (List (List Nat)))):Option ((List (List (List (List Nat)))) × Int × (List (List af)) × (List aA)) :=
  bL a >>= fun r1 =>
  om 24 r1.S.N r1.S.N ([]:List (List Nat)) >>= fun l1 =>
  nQ (max 0 (r1.S.N).toNat) >>= fun u1 =>
  cX (fun k1 (st:(List (List (List Nat))))=>gC b r1 k1 st) ((max 0 (r1.S.N).toNat) - 0) 0 l1 >>= fun l3 =>
  eM a l3 >>= fun r6 =>
  om 24 r1.S.N r1.S.N ([]:List (List (List Nat))) >>= fun l14 =>
  cX (fun k4 (st:(List (List (List (List Nat)))))=>kz b r1 r6 k4 st) ((max 0 (r1.S.N).toNat) - 0) 0 l14 >>= fun l16 =>
  some (l16,r6.2.1,r6.2.2,a.ak)
def ft (a:Nat) (b:List (List (List Nat))) (c:Nat) (k1:Nat) (l3:List Nat) (x2:Int):Option (Out ((List Nat) × Int) (List Nat)) :=
  b[k1]? >>= fun x3 =>
  bif decide (x2 < ((x3.length:Nat):Int)) then
    dU x3 x2 >>= fun x4 =>
    e7 a x4 c >>= fun r3 =>
    cW 8 l3 ([r3]:List Nat) >>= fun l6 =>
    eJ x2 (1:Int) >>= fun x5 =>
    some (.go (l6,x5))
  else
    some (.fin l3)
def lY (a:Nat) (b:List (List (List Nat))) (c:Nat) (k1:Nat) (l1:List Nat):Option (List Nat) :=
  qJ (fun (st:(List Nat) × Int)=>ft a b c k1 st.1 st.2) big (l1,((0:Nat):Int)) >>= fun l5 =>
  some l5
def gO (a:Nat) (b:List (List (List Nat))) (c:Nat):Option (List Nat) :=
  cX (fun k1 (st:(List Nat))=>lY a b c k1 st) (b.length - 0) 0 ([]:List Nat) >>= fun l2 =>
  some l2
def mr (a:List (List (List (List Nat)))) (r1:ab) (k1:Nat) (k2:Nat) (l4:List (List (List Nat))):Option (List (List (List Nat))) :=
  l4[k1]? >>= fun x3 =>
  a[k1]? >>= fun x4 =>
  eJ ((k2:Nat):Int) (1:Int) >>= fun x5 =>
  some (mu x5) >>= fun x6 =>
  gO r1.S.P x4 x6 >>= fun r4 =>
  cW 24 x3 ([r4]:List (List Nat)) >>= fun l6 =>
  some (l4.set k1 l6) >>= fun l7 =>
  some l7
def mq (a:List (List (List (List Nat)))) (r1:ab) (k1:Nat) (l2:List (List (List Nat))):Option (List (List (List Nat))) :=
  cX (fun k2 (st:(List (List (List Nat))))=>mr a r1 k1 k2 st) ((max 0 (r1.S.N).toNat) - 0) 0 l2 >>= fun l5 =>
  some l5
def iy (l3:List (List (List Nat))) (k3:Nat) (k4:Nat) (l10:List (List (List Nat))):Option (List (List (List Nat))) :=
  l10[k3]? >>= fun x9 =>
  x9[k4]? >>= fun x10 =>
  l3[0]? >>= fun x11 =>
  x11[0]? >>= fun x12 =>
  da x10 ((x12.length:Nat):Int) >>= fun r8 =>
  some (x9.set k4 r8) >>= fun l12 =>
  some (l10.set k3 l12) >>= fun l13 =>
  some l13
def mt (r1:ab) (l3:List (List (List Nat))) (k3:Nat) (l8:List (List (List Nat))):Option (List (List (List Nat))) :=
  cX (fun k4 (st:(List (List (List Nat))))=>iy l3 k3 k4 st) ((max 0 (r1.S.N).toNat) - 0) 0 l8 >>= fun l11 =>
  some l11
def jB (a:au) (b:List (List (List (List Nat)))):Option ((List (List (List Nat))) × Int × (List (List af))) :=
  bL a >>= fun r1 =>
  om 24 r1.S.N r1.S.N ([]:List (List Nat)) >>= fun l1 =>
  nQ (max 0 (r1.S.N).toNat) >>= fun u1 =>
  cX (fun k1 (st:(List (List (List Nat))))=>mq b r1 k1 st) ((max 0 (r1.S.N).toNat) - 0) 0 l1 >>= fun l3 =>
  eM a l3 >>= fun r5 =>
  cX (fun k3 (st:(List (List (List Nat))))=>mt r1 l3 k3 st) ((max 0 (r1.S.N).toNat) - 0) 0 r5.1 >>= fun l9 =>
  some (l9,r5.2.1,r5.2.2)
def eO (a:ab) (b:List (List (List Nat))) (c:Int) (d:List (List Nat)) (k1:Nat) (r2:(List Nat)) (k2:Nat) (l6:List Nat) (x8:Int) (x9:Int):Option (Out ((List Nat) × Int × Int) ((List Nat) × Int)) :=
  b[k2]? >>= fun x12 =>
  bif decide (x9 < ((x12.length:Nat):Int)) then
    (
      bif ((k1:Nat):Int) != c then
        dU r2 x8 >>= fun x14 =>
        d[k1]? >>= fun x15 =>
        dU x15 x8 >>= fun x16 =>
        some (((x14:Nat):Int) != ((x16:Nat):Int))
      else
        some false
    ) >>= fun x13 =>
    bif x13 then
      lU ((k2:Nat):Int) a.S.N >>= fun x17 =>
      eJ x17 ((k1:Nat):Int) >>= fun x18 =>
      dU l6 x18 >>= fun x19 =>
      some (l6.set x18.toNat 1) >>= fun l9 =>
      eJ x8 (1:Int) >>= fun x20 =>
      eJ x9 (1:Int) >>= fun x21 =>
      some (.go (l9,x20,x21))
    else
      eJ x8 (1:Int) >>= fun x22 =>
      eJ x9 (1:Int) >>= fun x23 =>
      some (.go (l6,x22,x23))
  else
    some (.fin (l6,x8))
def fU (a:ab) (b:List (List (List Nat))) (c:Int) (d:List (List Nat)) (k1:Nat) (r2:(List Nat)) (k2:Nat) (l4:List Nat) (x5:Int):Option ((List Nat) × Int) :=
  qJ (fun (st:(List Nat) × Int × Int)=>eO a b c d k1 r2 k2 st.1 st.2.1 st.2.2) big (l4,x5,((0:Nat):Int)) >>= fun (l8,x11) =>
  some (l8,x11)
def jS (a:ab) (b:List (List (List Nat))) (c:Int) (d:List (List Nat)) (k1:Nat) (l2:List Nat):Option (List Nat) :=
  eJ ((k1:Nat):Int) (1:Int) >>= fun x3 =>
  some (mu x3) >>= fun x4 =>
  gO a.S.P b x4 >>= fun r2 =>
  cX (fun k2 (st:(List Nat) × Int)=>fU a b c d k1 r2 k2 st.1 st.2) ((max 0 (a.S.N).toNat) - 0) 0 (l2,((0:Nat):Int)) >>= fun (l5,x7) =>
  some l5
def im (a:ab) (b:List (List (List Nat))) (c:Int) (d:List (List Nat)):Option (List Nat) :=
  lU a.S.N a.S.N >>= fun x1 =>
  om 8 x1 x1 (0:Nat) >>= fun l1 =>
  nQ (max 0 (a.S.N).toNat) >>= fun u1 =>
  cX (fun k1 (st:(List Nat))=>jS a b c d k1 st) ((max 0 (a.S.N).toNat) - 0) 0 l1 >>= fun l3 =>
  some l3
def fg (a:ab) (b:Int) (c:List (List Nat)) (k1:Nat) (l2:List (List Nat)):Option (List (List Nat)) :=
  a.aa[k1]? >>= fun x2 =>
  (
    bif x2.Round == b then
      fc a x2.From >>= fun r2 =>
      some r2
    else
      some false
  ) >>= fun x3 =>
  bif x3 then
    (
      bif decide (x2.Of ≥ (1:Int)) then
        gJ x2.Of (1:Int) >>= fun x4 =>
        dU c x4 >>= fun x5 =>
        some x5
      else
        some ([]:List Nat)
    ) >>= fun l4 =>
    gJ x2.From (1:Int) >>= fun x6 =>
    dU l2 x6 >>= fun x7 =>
    iO a x2 x7 l4 >>= fun r3 =>
    some (l2.set x6.toNat r3) >>= fun l5 =>
    some l5
  else
    some l2
def dX (a:ab) (b:Int) (c:List (List Nat)):Option (List (List Nat)) :=
  cW 24 ([]:List (List Nat)) c >>= fun l1 =>
  cX (fun k1 (st:(List (List Nat)))=>fg a b c k1 st) (a.aa.length - 0) 0 l1 >>= fun l3 =>
  some l3
def di (a:au) (k1:Nat) (l5:List Nat) (k2:Nat) (l7:List (List af)):Option (List (List af)) :=
  fT (⟨a.zw,a.ai,l7,a.ak⟩:au) ((k2:Nat):Int) ((k1:Nat):Int) l5 >>= fun r4 =>
  some r4
def cv (a:au) (r1:(List (List Nat))) (k1:Nat) (l1:List (List af)) (l2:List (List Nat)):Option ((List (List af)) × (List (List Nat))) :=
  r1[k1]? >>= fun x2 =>
  cW 8 ([]:List Nat) x2 >>= fun l5 =>
  cW 24 l2 ([l5]:List (List Nat)) >>= fun l6 =>
  cX (fun k2 (st:(List (List af)))=>di a k1 l5 k2 st) ((max 0 (a.zw.S.N).toNat) - 0) 0 l1 >>= fun l8 =>
  some (l8,l6)
def bZ (a:au) (b:List (List Nat)):Option ((List (List Nat)) × Int × (List (List af))) :=
  dX a.zw a.ai b >>= fun r1 =>
  nQ (max 0 (a.zw.S.N).toNat) >>= fun u1 =>
  cX (fun k1 (st:(List (List af)) × (List (List Nat)))=>cv a r1 k1 st.1 st.2) ((max 0 (a.zw.S.N).toNat) - 0) 0 (a.am,([]:List (List Nat))) >>= fun (l3,l4) =>
  eJ a.ai (1:Int) >>= fun x4 =>
  some (l4,x4,l3)
def kw (r1:ab) (r3:(List (List (List (List Nat)))) × Int × (List (List af)) × (List aA)) (r4:(List (List (List Nat))) × Int × (List (List af))) (k1:Nat) (l1:List (List Nat)):Option (List (List Nat)) :=
  r3.1[k1]? >>= fun x2 =>
  r4.1[k1]? >>= fun x3 =>
  im r1 x2 ((k1:Nat):Int) x3 >>= fun r6 =>
  cW 24 l1 ([r6]:List (List Nat)) >>= fun l3 =>
  some l3
def ky (r1:ab) (r9:(List Nat)) (k3:Nat) (l6:List (List Nat)):Option (List (List Nat)) :=
  lU ((k3:Nat):Int) r1.S.N >>= fun x8 =>
  eJ ((k3:Nat):Int) (1:Int) >>= fun x9 =>
  lU x9 r1.S.N >>= fun x10 =>
  rq r9 x8 x10 >>= fun l8 =>
  cW 24 l6 ([l8]:List (List Nat)) >>= fun l9 =>
  some l9
def kx (r1:ab) (r7:(List (List Nat)) × Int × (List (List af))) (k2:Nat) (l4:List (List (List Nat))):Option (List (List (List Nat))) :=
  r7.1[k2]? >>= fun x5 =>
  lU r1.S.N r1.S.N >>= fun x6 =>
  da x5 x6 >>= fun r9 =>
  cX (fun k3 (st:(List (List Nat)))=>ky r1 r9 k3 st) ((max 0 (r1.S.N).toNat) - 0) 0 ([]:List (List Nat)) >>= fun l7 =>
  cW 24 l4 ([l7]:List (List (List Nat))) >>= fun l10 =>
  some l10
def gK (a:au) (b:List (List (List Nat))):Option (ao × Int × (List (List af)) × (List aA)) :=
  bL a >>= fun r1 =>
  iw a b >>= fun r2 =>
  j9 (⟨a.zw,a.ai,r2.2.1,r2.2.2⟩:au) r2.1 >>= fun r3 =>
  jB (⟨a.zw,r3.2.1,r3.2.2.1,r3.2.2.2⟩:au) r3.1 >>= fun r4 =>
  nQ (max 0 (r1.S.N).toNat) >>= fun u1 =>
  cX (fun k1 (st:(List (List Nat)))=>kw r1 r3 r4 k1 st) ((max 0 (r1.S.N).toNat) - 0) 0 ([]:List (List Nat)) >>= fun l2 =>
  bZ (⟨a.zw,r4.2.1,r4.2.2,r3.2.2.2⟩:au) l2 >>= fun r7 =>
  cX (fun k2 (st:(List (List (List Nat))))=>kx r1 r7 k2 st) ((max 0 (r1.S.N).toNat) - 0) 0 ([]:List (List (List Nat))) >>= fun l5 =>
  some ((⟨r2.1,r3.1,l5⟩:ao),r7.2.1,r7.2.2,r3.2.2.2)
def j6 (a:Nat) (b:List (List Nat)) (c:Nat) (d:Nat):Option Nat :=
  fb a b c >>= fun r1 =>
  e7 a r1 d >>= fun r2 =>
  some r2
def fu (a:iY) (b:Int):Option ((List Nat) × (List Nat)) :=
  da a.zl b >>= fun r1 =>
  bif decide (((a.zl.length:Nat):Int) > b) then
    rq a.zl b ((a.zl.length:Nat):Int) >>= fun l1 =>
    some (r1,l1)
  else
    some (r1,([]:List Nat))
def gz (a:Nat) (b:List Nat) (c:Nat) (k1:Nat) (x1:Nat) (x2:Nat):Option (Nat × Nat) :=
  b[k1]? >>= fun x6 =>
  gi a x6 x2 >>= fun r2 =>
  gf a x1 r2 >>= fun r3 =>
  gi a x2 c >>= fun r4 =>
  some (r3,r4)
def cS (a:Nat) (b:List Nat) (c:Nat):Option Nat :=
  cX (fun k1 (st:Nat × Nat)=>gz a b c k1 st.1 st.2) (b.length - 0) 0 (0,1) >>= fun (x4,x5) =>
  some x4
def cO (a:ao) (r1:ab) (k1:Nat) (k2:Nat) (k3:Nat) (l8:List (List Nat)) (x4:Int):Option (Out ((List (List Nat)) × Int) (List (List Nat))) :=
  (
    a.S[k1]? >>= fun x6 =>
    bif decide (x4 < ((x6.length:Nat):Int)) then
      gJ ((k2:Nat):Int) (1:Int) >>= fun x7 =>
      dU a.az x7 >>= fun x8 =>
      x8[k1]? >>= fun x9 =>
      gJ ((k3:Nat):Int) (1:Int) >>= fun x10 =>
      dU x9 x10 >>= fun x11 =>
      some (((x11:Nat):Int) != (0:Int))
    else
      some false
  ) >>= fun x5 =>
  bif x5 then
    l8[k1]? >>= fun x12 =>
    a.S[k1]? >>= fun x13 =>
    dU x13 x4 >>= fun x14 =>
    some (mu ((k2:Nat):Int)) >>= fun x15 =>
    some (mu ((k3:Nat):Int)) >>= fun x16 =>
    j6 r1.S.P x14 x15 x16 >>= fun r6 =>
    cW 8 x12 ([r6]:List Nat) >>= fun l11 =>
    some (l8.set k1 l11) >>= fun l12 =>
    eJ x4 (1:Int) >>= fun x17 =>
    some (.go (l12,x17))
  else
    some (.fin l8)
def eS (a:ao) (r1:ab) (k1:Nat) (k2:Nat) (k3:Nat) (l6:List (List Nat)):Option (List (List Nat)) :=
  qJ (fun (st:(List (List Nat)) × Int)=>cO a r1 k1 k2 k3 st.1 st.2) big (l6,((0:Nat):Int)) >>= fun l10 =>
  some l10
def eQ (a:ao) (r1:ab) (k1:Nat) (k2:Nat) (l4:List (List Nat)):Option (List (List Nat)) :=
  cX (fun k3 (st:(List (List Nat)))=>eS a r1 k1 k2 k3 st) ((max 1 (r1.S.N+1).toNat) - 1) 1 l4 >>= fun l7 =>
  some l7
def eP (a:ao) (r1:ab) (k1:Nat) (l2:List (List Nat)):Option (List (List Nat)) :=
  nQ (max 1 (r1.S.N+1).toNat) >>= fun u2 =>
  cX (fun k2 (st:(List (List Nat)))=>eQ a r1 k1 k2 st) ((max 1 (r1.S.N+1).toNat) - 1) 1 l2 >>= fun l5 =>
  some l5
def cP (a:ao) (r1:ab) (k4:Nat) (x19:Int) (k5:Nat) (k6:Nat) (k7:Nat) (l27:List (List Nat)) (l28:List Nat) (x25:Int):Option (Out ((List (List Nat)) × (List Nat) × Int) ((List (List Nat)) × (List Nat))) :=
  (
    a.S[k5]? >>= fun x27 =>
    bif decide (x25 < ((x27.length:Nat):Int)) then
      gJ ((k6:Nat):Int) (1:Int) >>= fun x28 =>
      dU a.az x28 >>= fun x29 =>
      x29[k5]? >>= fun x30 =>
      gJ ((k7:Nat):Int) (1:Int) >>= fun x31 =>
      dU x30 x31 >>= fun x32 =>
      some (((x32:Nat):Int) != (0:Int))
    else
      some false
  ) >>= fun x26 =>
  bif x26 then
    fu (⟨l28⟩:iY) ((1:Nat):Int) >>= fun r13 =>
    r13.1[0]? >>= fun x33 =>
    (
      bif ((k4:Nat):Int) == ((k6:Nat):Int) then
        dU a.Rows x19 >>= fun x35 =>
        x35[k5]? >>= fun x36 =>
        dU x36 x25 >>= fun x37 =>
        some (mu ((k7:Nat):Int)) >>= fun x38 =>
        cS r1.S.P x37 x38 >>= fun r14 =>
        bif ((r14:Nat):Int) != ((x33:Nat):Int) then
          some true
        else
          bif ((k4:Nat):Int) == ((k7:Nat):Int) then
            some (mu ((k6:Nat):Int)) >>= fun x39 =>
            cS r1.S.P x37 x39 >>= fun r15 =>
            some (((r15:Nat):Int) != ((x33:Nat):Int))
          else
            some false
      else
        bif ((k4:Nat):Int) == ((k7:Nat):Int) then
          dU a.Rows x19 >>= fun x40 =>
          x40[k5]? >>= fun x41 =>
          dU x41 x25 >>= fun x42 =>
          some (mu ((k6:Nat):Int)) >>= fun x43 =>
          cS r1.S.P x42 x43 >>= fun r16 =>
          some (((r16:Nat):Int) != ((x33:Nat):Int))
        else
          some false
    ) >>= fun x34 =>
    bif x34 then
      dU l27 x19 >>= fun x44 =>
      x44[k5]? >>= fun x45 =>
      some (x44.set k5 1) >>= fun l33 =>
      some (l27.set x19.toNat l33) >>= fun l34 =>
      eJ x25 (1:Int) >>= fun x46 =>
      some (.go (l34,r13.2,x46))
    else
      eJ x25 (1:Int) >>= fun x47 =>
      some (.go (l27,r13.2,x47))
  else
    some (.fin (l27,l28))
def eW (a:ao) (r1:ab) (k4:Nat) (x19:Int) (k5:Nat) (k6:Nat) (k7:Nat) (l23:List (List Nat)) (l24:List Nat):Option ((List (List Nat)) × (List Nat)) :=
  qJ (fun (st:(List (List Nat)) × (List Nat) × Int)=>cP a r1 k4 x19 k5 k6 k7 st.1 st.2.1 st.2.2) big (l23,l24,((0:Nat):Int)) >>= fun (l31,l32) =>
  some (l31,l32)
def eV (a:ao) (r1:ab) (k4:Nat) (x19:Int) (k5:Nat) (k6:Nat) (l19:List (List Nat)) (l20:List Nat):Option ((List (List Nat)) × (List Nat)) :=
  cX (fun k7 (st:(List (List Nat)) × (List Nat))=>eW a r1 k4 x19 k5 k6 k7 st.1 st.2) ((max 1 (r1.S.N+1).toNat) - 1) 1 (l19,l20) >>= fun (l25,l26) =>
  some (l25,l26)
def dA (a:ao) (r1:ab) (r7:(List (List Nat)) × Int × (List (List af))) (k4:Nat) (x19:Int) (k5:Nat) (l17:List (List Nat)):Option (List (List Nat)) :=
  r7.1[k5]? >>= fun x22 =>
  cX (fun k6 (st:(List (List Nat)) × (List Nat))=>eV a r1 k4 x19 k5 k6 st.1 st.2) ((max 1 (r1.S.N+1).toNat) - 1) 1 (l17,x22) >>= fun (l21,l22) =>
  some l21
def eU (a:ao) (r1:ab) (r7:(List (List Nat)) × Int × (List (List af))) (k4:Nat) (l13:List (List Nat)):Option (List (List Nat)) :=
  gJ ((k4:Nat):Int) (1:Int) >>= fun x19 =>
  om 8 r1.S.N r1.S.N (0:Nat) >>= fun l15 =>
  dU l13 x19 >>= fun x20 =>
  some (l13.set x19.toNat l15) >>= fun l16 =>
  cX (fun k5 (st:(List (List Nat)))=>dA a r1 r7 k4 x19 k5 st) ((max 0 (r1.S.N).toNat) - 0) 0 l16 >>= fun l18 =>
  some l18
def lg (r1:ab) (k8:Nat) (l35:List (List Nat)):Option (List (List Nat)) :=
  l35[k8]? >>= fun x49 =>
  da x49 r1.S.N >>= fun r19 =>
  some (l35.set k8 r19) >>= fun l37 =>
  some l37
def cE (a:ao) (r1:ab) (l36:List (List Nat)) (k9:Nat) (k10:Nat) (l42:List (List Nat)) (x52:Int):Option (Out ((List (List Nat)) × Int) (List (List Nat))) :=
  (
    a.S[k9]? >>= fun x54 =>
    bif decide (x52 < ((x54.length:Nat):Int)) then
      gJ ((k10:Nat):Int) (1:Int) >>= fun x55 =>
      dU l36 x55 >>= fun x56 =>
      x56[k9]? >>= fun x57 =>
      some (((x57:Nat):Int) != (0:Int))
    else
      some false
  ) >>= fun x53 =>
  bif x53 then
    l42[k9]? >>= fun x58 =>
    a.S[k9]? >>= fun x59 =>
    dU x59 x52 >>= fun x60 =>
    some (mu ((k10:Nat):Int)) >>= fun x61 =>
    fb r1.S.P x60 x61 >>= fun r23 =>
    cW 8 x58 r23 >>= fun l45 =>
    some (l42.set k9 l45) >>= fun l46 =>
    eJ x52 (1:Int) >>= fun x62 =>
    some (.go (l46,x62))
  else
    some (.fin l42)
def eg (a:ao) (r1:ab) (l36:List (List Nat)) (k9:Nat) (k10:Nat) (l40:List (List Nat)):Option (List (List Nat)) :=
  qJ (fun (st:(List (List Nat)) × Int)=>cE a r1 l36 k9 k10 st.1 st.2) big (l40,((0:Nat):Int)) >>= fun l44 =>
  some l44
def ef (a:ao) (r1:ab) (l36:List (List Nat)) (k9:Nat) (l38:List (List Nat)):Option (List (List Nat)) :=
  cX (fun k10 (st:(List (List Nat)))=>eg a r1 l36 k9 k10 st) ((max 1 (r1.S.N+1).toNat) - 1) 1 l38 >>= fun l41 =>
  some l41
def cG (a:ao) (r1:ab) (l36:List (List Nat)) (k11:Nat) (k12:Nat) (l56:List (List (List (List Nat)))) (l57:List Nat) (x67:Int):Option (Out ((List (List (List (List Nat)))) × (List Nat) × Int) ((List (List (List (List Nat)))) × (List Nat))) :=
  (
    a.S[k11]? >>= fun x69 =>
    bif decide (x67 < ((x69.length:Nat):Int)) then
      l36[k12]? >>= fun x70 =>
      x70[k11]? >>= fun x71 =>
      some (((x71:Nat):Int) != (0:Int))
    else
      some false
  ) >>= fun x68 =>
  bif x68 then
    l56[k11]? >>= fun x72 =>
    x72[k12]? >>= fun x73 =>
    eJ r1.S.T (1:Int) >>= fun x74 =>
    fu (⟨l57⟩:iY) x74 >>= fun r28 =>
    cW 24 x73 ([r28.1]:List (List Nat)) >>= fun l62 =>
    some (x72.set k12 l62) >>= fun l63 =>
    some (l56.set k11 l63) >>= fun l64 =>
    eJ x67 (1:Int) >>= fun x75 =>
    some (.go (l64,r28.2,x75))
  else
    some (.fin (l56,l57))
def ep (a:ao) (r1:ab) (l36:List (List Nat)) (k11:Nat) (k12:Nat) (l52:List (List (List (List Nat)))) (l53:List Nat):Option ((List (List (List (List Nat)))) × (List Nat)) :=
  qJ (fun (st:(List (List (List (List Nat)))) × (List Nat) × Int)=>cG a r1 l36 k11 k12 st.1 st.2.1 st.2.2) big (l52,l53,((0:Nat):Int)) >>= fun (l60,l61) =>
  some (l60,l61)
def em (a:ao) (r1:ab) (l36:List (List Nat)) (r24:(List (List Nat)) × Int × (List (List af))) (k11:Nat) (l48:List (List (List (List Nat)))):Option (List (List (List (List Nat)))) :=
  r24.1[k11]? >>= fun x64 =>
  om 24 r1.S.N r1.S.N ([]:List (List Nat)) >>= fun l50 =>
  l48[k11]? >>= fun x65 =>
  some (l48.set k11 l50) >>= fun l51 =>
  cX (fun k12 (st:(List (List (List (List Nat)))) × (List Nat))=>ep a r1 l36 k11 k12 st.1 st.2) ((max 0 (r1.S.N).toNat) - 0) 0 (l51,x64) >>= fun (l54,l55) =>
  some l54
def cH (a:ao) (r1:ab) (l36:List (List Nat)) (l49:List (List (List (List Nat)))) (k13:Nat) (x77:Int) (k14:Nat) (k15:Nat) (l73:List (List Nat)) (x81:Int):Option (Out ((List (List Nat)) × Int) (List (List Nat))) :=
  (
    l49[k14]? >>= fun x83 =>
    gJ ((k15:Nat):Int) (1:Int) >>= fun x84 =>
    dU x83 x84 >>= fun x85 =>
    bif decide (x81 < ((x85.length:Nat):Int)) then
      dU l36 x77 >>= fun x86 =>
      x86[k14]? >>= fun x87 =>
      some (((x87:Nat):Int) == (0:Int))
    else
      some false
  ) >>= fun x82 =>
  bif x82 then
    l49[k14]? >>= fun x88 =>
    gJ ((k15:Nat):Int) (1:Int) >>= fun x89 =>
    dU x88 x89 >>= fun x90 =>
    dU x90 x81 >>= fun x91 =>
    some (mu ((k13:Nat):Int)) >>= fun x92 =>
    cS r1.S.P x91 x92 >>= fun r33 =>
    dU a.Rows x77 >>= fun x93 =>
    x93[k14]? >>= fun x94 =>
    dU x94 x81 >>= fun x95 =>
    some (mu ((k15:Nat):Int)) >>= fun x96 =>
    cS r1.S.P x95 x96 >>= fun r34 =>
    bif ((r33:Nat):Int) != ((r34:Nat):Int) then
      dU l73 x77 >>= fun x97 =>
      x97[k14]? >>= fun x98 =>
      some (x97.set k14 1) >>= fun l76 =>
      some (l73.set x77.toNat l76) >>= fun l77 =>
      eJ x81 (1:Int) >>= fun x99 =>
      some (.go (l77,x99))
    else
      eJ x81 (1:Int) >>= fun x100 =>
      some (.go (l73,x100))
  else
    some (.fin l73)
def eA (a:ao) (r1:ab) (l36:List (List Nat)) (l49:List (List (List (List Nat)))) (k13:Nat) (x77:Int) (k14:Nat) (k15:Nat) (l71:List (List Nat)):Option (List (List Nat)) :=
  qJ (fun (st:(List (List Nat)) × Int)=>cH a r1 l36 l49 k13 x77 k14 k15 st.1 st.2) big (l71,((0:Nat):Int)) >>= fun l75 =>
  some l75
def dk (a:ao) (r1:ab) (l36:List (List Nat)) (l49:List (List (List (List Nat)))) (k13:Nat) (x77:Int) (k14:Nat) (l69:List (List Nat)):Option (List (List Nat)) :=
  cX (fun k15 (st:(List (List Nat)))=>eA a r1 l36 l49 k13 x77 k14 k15 st) ((max 1 (r1.S.N+1).toNat) - 1) 1 l69 >>= fun l72 =>
  some l72
def eu (a:ao) (r1:ab) (l36:List (List Nat)) (l49:List (List (List (List Nat)))) (k13:Nat) (l65:List (List Nat)):Option (List (List Nat)) :=
  gJ ((k13:Nat):Int) (1:Int) >>= fun x77 =>
  om 8 r1.S.N r1.S.N (0:Nat) >>= fun l67 =>
  dU l65 x77 >>= fun x78 =>
  some (l65.set x77.toNat l67) >>= fun l68 =>
  cX (fun k14 (st:(List (List Nat)))=>dk a r1 l36 l49 k13 x77 k14 st) ((max 0 (r1.S.N).toNat) - 0) 0 l68 >>= fun l70 =>
  some l70
def iH (r1:ab) (l36:List (List Nat)) (r35:(List (List Nat)) × Int × (List (List af))) (k16:Nat) (k17:Nat) (x102:Int):Option Int :=
  l36[k17]? >>= fun x105 =>
  x105[k16]? >>= fun x106 =>
  bif ((x106:Nat):Int) != (0:Int) then
    eJ x102 (1:Int) >>= fun x107 =>
    some x107
  else
    r35.1[k17]? >>= fun x108 =>
    da x108 r1.S.N >>= fun r38 =>
    r38[k16]? >>= fun x109 =>
    bif ((x109:Nat):Int) != (0:Int) then
      eJ x102 (1:Int) >>= fun x110 =>
      some x110
    else
      some x102
def iG (r1:ab) (l36:List (List Nat)) (r35:(List (List Nat)) × Int × (List (List af))) (k16:Nat) (l79:List Bool):Option (List Bool) :=
  cX (fun k17 (st:Int)=>iH r1 l36 r35 k16 k17 st) ((max 0 (r1.S.N).toNat) - 0) 0 ((0:Nat):Int) >>= fun x104 =>
  l79[k16]? >>= fun x111 =>
  some (l79.set k16 (decide (x104 > r1.S.T))) >>= fun l81 =>
  some l81
def dm (a:ao) (r1:ab) (l36:List (List Nat)) (l49:List (List (List (List Nat)))) (l80:List Bool) (k18:Nat) (k19:Nat) (l86:List (List Nat)) (x114:Int):Option (Out ((List (List Nat)) × Int) (List (List Nat))) :=
  a.S[k19]? >>= fun x115 =>
  bif decide (x114 < ((x115.length:Nat):Int)) then
    a.Rows[k18]? >>= fun x116 =>
    x116[k19]? >>= fun x117 =>
    dU x117 x114 >>= fun x118 =>
    l36[k18]? >>= fun x119 =>
    x119[k19]? >>= fun x120 =>
    (
      bif ((x120:Nat):Int) != (0:Int) then
        l49[k19]? >>= fun x121 =>
        x121[k18]? >>= fun x122 =>
        dU x122 x114 >>= fun x123 =>
        some x123
      else
        some x118
    ) >>= fun l89 =>
    l80[k19]? >>= fun x124 =>
    bif x124 then
      eJ r1.S.T (1:Int) >>= fun x125 =>
      om 8 x125 x125 (0:Nat) >>= fun l90 =>
      cW 24 l86 ([l90]:List (List Nat)) >>= fun l91 =>
      eJ x114 (1:Int) >>= fun x126 =>
      some (.go (l91,x126))
    else
      cW 24 l86 ([l89]:List (List Nat)) >>= fun l92 =>
      eJ x114 (1:Int) >>= fun x127 =>
      some (.go (l92,x127))
  else
    some (.fin l86)
def fR (a:ao) (r1:ab) (l36:List (List Nat)) (l49:List (List (List (List Nat)))) (l80:List Bool) (k18:Nat) (k19:Nat) (l84:List (List (List (List Nat)))):Option (List (List (List (List Nat)))) :=
  qJ (fun (st:(List (List Nat)) × Int)=>dm a r1 l36 l49 l80 k18 k19 st.1 st.2) big (([]:List (List Nat)),((0:Nat):Int)) >>= fun l88 =>
  l84[k18]? >>= fun x128 =>
  cW 24 x128 ([l88]:List (List (List Nat))) >>= fun l93 =>
  some (l84.set k18 l93) >>= fun l94 =>
  some l94
def eB (a:ao) (r1:ab) (l36:List (List Nat)) (l49:List (List (List (List Nat)))) (l80:List Bool) (k18:Nat) (l82:List (List (List (List Nat)))):Option (List (List (List (List Nat)))) :=
  cX (fun k19 (st:(List (List (List (List Nat)))))=>fR a r1 l36 l49 l80 k18 k19 st) ((max 0 (r1.S.N).toNat) - 0) 0 l82 >>= fun l85 =>
  some l85
def iA (a:au) (b:ao):Option (aW × Int × (List (List af)) × (List aA)) :=
  bL a >>= fun r1 =>
  om 24 r1.S.N r1.S.N ([]:List Nat) >>= fun l1 =>
  nQ (max 0 (r1.S.N).toNat) >>= fun u1 =>
  cX (fun k1 (st:(List (List Nat)))=>eP b r1 k1 st) ((max 0 (r1.S.N).toNat) - 0) 0 l1 >>= fun l3 =>
  bZ a l3 >>= fun r7 =>
  nQ (max 1 (r1.S.N+1).toNat) >>= fun u3 =>
  cX (fun k4 (st:(List (List Nat)))=>eU b r1 r7 k4 st) ((max 1 (r1.S.N+1).toNat) - 1) 1 l1 >>= fun l14 =>
  bZ (⟨a.zw,r7.2.1,r7.2.2,a.ak⟩:au) l14 >>= fun r17 =>
  cX (fun k8 (st:(List (List Nat)))=>lg r1 k8 st) ((max 0 (r1.S.N).toNat) - 0) 0 r17.1 >>= fun l36 =>
  cX (fun k9 (st:(List (List Nat)))=>ef b r1 l36 k9 st) ((max 0 (r1.S.N).toNat) - 0) 0 l1 >>= fun l39 =>
  bZ (⟨a.zw,r17.2.1,r17.2.2,a.ak⟩:au) l39 >>= fun r24 =>
  om 24 r1.S.N r1.S.N ([]:List (List (List Nat))) >>= fun l47 =>
  cX (fun k11 (st:(List (List (List (List Nat)))))=>em b r1 l36 r24 k11 st) ((max 0 (r1.S.N).toNat) - 0) 0 l47 >>= fun l49 =>
  cX (fun k13 (st:(List (List Nat)))=>eu b r1 l36 l49 k13 st) ((max 1 (r1.S.N+1).toNat) - 1) 1 l1 >>= fun l66 =>
  bZ (⟨a.zw,r24.2.1,r24.2.2,a.ak⟩:au) l66 >>= fun r35 =>
  om 1 r1.S.N r1.S.N (false:Bool) >>= fun l78 =>
  cX (fun k16 (st:(List Bool))=>iG r1 l36 r35 k16 st) ((max 0 (r1.S.N).toNat) - 0) 0 l78 >>= fun l80 =>
  cX (fun k18 (st:(List (List (List (List Nat)))))=>eB b r1 l36 l49 l80 k18 st) ((max 0 (r1.S.N).toNat) - 0) 0 l47 >>= fun l83 =>
  some ((⟨l83,l80⟩:aW),r35.2.1,r35.2.2,a.ak)
def io (a:au) (b:List (List (List Nat))):Option (aW × Int × (List (List af)) × (List aA)) :=
  gK a b >>= fun r1 =>
  iA (⟨a.zw,r1.2.1,r1.2.2.1,r1.2.2.2⟩:au) r1.1 >>= fun r2 =>
  some (r2.1,r2.2.1,r2.2.2.1,r2.2.2.2)
def mp (a:List Nat) (b:List Nat) (k1:Nat):Option (Out Unit Bool) :=
  a[k1]? >>= fun x1 =>
  b[k1]? >>= fun x2 =>
  bif ((x1:Nat):Int) != ((x2:Nat):Int) then
    some (.fin false)
  else
    some (.go ())
def jz (a:List Nat) (b:List Nat):Option Bool :=
  bif ((a.length:Nat):Int) != ((b.length:Nat):Int) then
    some false
  else
    oe (fun k1 (st:Unit)=>mp a b k1) (a.length - 0) 0 () >>= fun r1=>kN r1 (fun x=>some x) fun _ =>
    some true
def mo (a:List (List Nat)) (b:List (List Nat)) (k1:Nat):Option (Out Unit Bool) :=
  a[k1]? >>= fun x1 =>
  b[k1]? >>= fun x2 =>
  jz x1 x2 >>= fun r2 =>
  bif !r2 then
    some (.fin false)
  else
    some (.go ())
def jy (a:List (List Nat)) (b:List (List Nat)):Option Bool :=
  bif ((a.length:Nat):Int) != ((b.length:Nat):Int) then
    some false
  else
    oe (fun k1 (st:Unit)=>mo a b k1) (a.length - 0) 0 () >>= fun r1=>kN r1 (fun x=>some x) fun _ =>
    some true
def ni (a:aW) (b:aW) (k1:Nat):Option (Out Unit Bool) :=
  a.bd[k1]? >>= fun x2 =>
  b.bd[k1]? >>= fun x3 =>
  bif (x2 != x3) then
    some (.fin false)
  else
    some (.go ())
def nk (x4:List (List (List Nat))) (x5:List (List (List Nat))) (k3:Nat):Option (Out Unit Bool) :=
  x4[k3]? >>= fun x6 =>
  x5[k3]? >>= fun x7 =>
  jy x6 x7 >>= fun r4 =>
  bif !r4 then
    some (.fin false)
  else
    some (.go ())
def nj (a:aW) (b:aW) (k2:Nat):Option (Out Unit Bool) :=
  a.Rows[k2]? >>= fun x4 =>
  b.Rows[k2]? >>= fun x5 =>
  bif ((x4.length:Nat):Int) != ((x5.length:Nat):Int) then
    some (.fin false)
  else
    oe (fun k3 (st:Unit)=>nk x4 x5 k3) (x4.length - 0) 0 () >>= fun r3=>kN r3 (fun x=>some (.fin x)) fun _ =>
    some (.go ())
def kg (a:aW) (b:aW):Option Bool :=
  (
    bif ((a.Rows.length:Nat):Int) != ((b.Rows.length:Nat):Int) then
      some true
    else
      some (((a.bd.length:Nat):Int) != ((b.bd.length:Nat):Int))
  ) >>= fun x1 =>
  bif x1 then
    some false
  else
    oe (fun k1 (st:Unit)=>ni a b k1) (a.bd.length - 0) 0 () >>= fun r1=>kN r1 (fun x=>some x) fun _ =>
    oe (fun k2 (st:Unit)=>nj a b k2) (a.Rows.length - 0) 0 () >>= fun r2=>kN r2 (fun x=>some x) fun _ =>
    some true
def ja (a:au):Option Int :=
  some a.ai
def kM (a:aB) (b:Int):Option (List af) :=
  gJ b (1:Int) >>= fun x1 =>
  dU a.am x1 >>= fun x2 =>
  cW 40 ([]:List af) x2 >>= fun l1 =>
  some l1
def iv (a:au) (b:Int):Option (List af) :=
  gJ b (1:Int) >>= fun x1 =>
  dU a.am x1 >>= fun x2 =>
  cW 40 ([]:List af) x2 >>= fun l1 =>
  some l1
def jA (a:af) (b:af):Option Bool :=
  bif a.Round == b.Round then
    bif a.From == b.From then
      iM a.j5 b.j5 >>= fun r1 =>
      some r1
    else
      some false
  else
    some false
def dN (a:List af) (b:List af) (x1:Int):Option (Out Int (Int ⊕ Unit)) :=
  (
    bif decide (x1 < ((a.length:Nat):Int)) then
      some (decide (x1 < ((b.length:Nat):Int)))
    else
      some false
  ) >>= fun x2 =>
  bif x2 then
    dU a x1 >>= fun x3 =>
    dU b x1 >>= fun x4 =>
    jA x3 x4 >>= fun r2 =>
    bif !r2 then
      some (.fin (.inl x1))
    else
      eJ x1 (1:Int) >>= fun x5 =>
      some (.go x5)
  else
    some (.fin (.inr ()))
def gM (a:List af) (b:List af):Option Int :=
  qJ (fun (st:Int)=>dN a b st) big ((0:Nat):Int) >>= fun r1=>Gd r1 (fun x=>some x) fun _ =>
  bif ((a.length:Nat):Int) == ((b.length:Nat):Int) then
    some (-1)
  else
    bif decide (((a.length:Nat):Int) < ((b.length:Nat):Int)) then
      some ((a.length:Nat):Int)
    else
      some ((b.length:Nat):Int)
def j7 (a:List af) (b:List af):Option Bool :=
  gM a b >>= fun r1 =>
  some (decide (r1 < (0:Int)))
def gX (r5:aB × aW × Bool) (r11:au) (r12:aW × Int × (List (List af)) × (List aA)) (k1:Nat):Option (Out Unit Bool) :=
  kM r5.1 ((k1:Nat):Int) >>= fun r17 =>
  iv (⟨r11.zw,r12.2.1,r12.2.2.1,r12.2.2.2⟩:au) ((k1:Nat):Int) >>= fun r18 =>
  j7 r17 r18 >>= fun r19 =>
  bif !r19 then
    some (.fin false)
  else
    some (.go ())
def fq (a:cK):Option Bool :=
  lx >>= fun r1 =>
  bif !r1 then
    some false
  else
    ka a.W a.Q ((7:Nat):Int) ((8:Nat):Int) ((2:Nat):Int) >>= fun r2 =>
    bif !r2 then
      some true
    else
      kO a >>= fun r3 =>
      yA r3 (fun r4 =>
        jb a.W >>= fun r6 =>
        yA r6 (fun r7 =>
          some false)
        (fun r8 =>
          some false))
      (fun r5 =>
        jb a.W >>= fun r9 =>
        yA r9 (fun r10 =>
          (
            bif !r5.2.2 then
              some ()
            else
              some ()
          ) >>= fun _ =>
          some false)
        (fun r11 =>
          (
            bif !r5.2.2 then
              some true
            else
              some false
          ) >>= fun x1 =>
          bif x1 then
            some false
          else
            io r11 a.Q >>= fun r12 =>
            (
              kg r5.2.1 r12.1 >>= fun r13 =>
              bif !r13 then
                some true
              else
                jr r5.1 >>= fun r14 =>
                ja (⟨r11.zw,r12.2.1,r12.2.2.1,r12.2.2.2⟩:au) >>= fun r15 =>
                some (r14 != r15)
            ) >>= fun x2 =>
            bif x2 then
              some false
            else
              nQ (max 1 (a.W.S.N+1).toNat) >>= fun u1 =>
              oe (fun k1 (st:Unit)=>gX r5 r11 r12 k1) ((max 1 (a.W.S.N+1).toNat) - 1) 1 () >>= fun r16=>kN r16 (fun x=>some x) fun _ =>
              some true))
end Pu
