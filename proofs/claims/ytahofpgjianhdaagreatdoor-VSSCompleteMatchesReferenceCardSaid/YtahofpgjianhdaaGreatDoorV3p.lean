/- Plain functions: what the Go functions compute, over lists and numbers, in Option (none: a run that is not followed). No Go in it. Printed by a program of this claim. -/
import Derived.Test.YtahofpgjianhdaaGreatDoorWd
set_option linter.unusedVariables false
namespace Pu
open Gw
structure bf where
  P:Nat
  N:Int
  T:Int
structure aS where
  Round:Int
  From:Int
  To:Int
  At:Int
  Kind:Int
  K:Nat
  Of:Int
  aV:Int
structure ab where
  S:bf
  ah:List Int
  aa:List aS
  au:List (List Nat)
structure cV where
  W:ab
  Q:List (List (List Nat))
structure af where
  Round:Int
  From:Int
  nU:List Nat
structure be where
  jS:List Nat
  zat:Int
structure aB where
  zw:ab
  ai:Int
  ap:List (List af)
  al:List be
structure am where
  S:List (List (List (List Nat)))
  Rows:List (List (List (List Nat)))
  az:List (List (List Nat))
structure ao where
  zn:aB
  zs:bf
  zq:List (List (List Nat))
  zd:am
structure aC where
  zn:aB
  zp:Nat
  zd:am
  bd:List (List Bool)
  bX:List (List Bool)
  cZ:List (List (List (List Nat)))
structure bF where
  e0:Int
  e1:Int
structure m6 where
  zl:List Nat
structure bi where
  Rows:List (List (List (List Nat)))
  bj:List Bool
structure aA where
  nU:List Nat
  At:Int
structure ay where
  zw:ab
  ai:Int
  ap:List (List af)
  al:List aA
structure iR where
  zl:List Nat
def ow  : Option (ab × (List (List (List Nat)))) :=
  some ((⟨(⟨31,((4:Nat):Int),((1:Nat):Int)⟩:bf),([]:List Int),([]:List aS),([([7]:List Nat),([]:List Nat),([]:List Nat),([]:List Nat)]:List (List Nat))⟩:ab),([([([5,3]:List Nat)]:List (List Nat)),([]:List (List Nat)),([]:List (List Nat)),([]:List (List Nat))]:List (List (List Nat))))
def sO (a:Nat) (k1:Nat):Option (Out Unit Int) :=
  ([5,7,13,17,19,31,61]:List Int)[k1]? >>= fun x1 =>
  yP 1 x1 >>= fun x2 =>
  some (xZ x2 1) >>= fun x3 =>
  bif ((a:Nat):Int) == ((x3:Nat):Int) then
    some (.fin x1)
  else
    some (.go ())
def qW (a:Nat):Option Int :=
  ot 7 >>= fun u1 =>
  oA (fun k1 (st:Unit)=>sO a k1) (7 - 0) 0 () >>= fun r1=>kF r1 (fun x=>some x) fun _ =>
  some ((0:Nat):Int)
def nP (a:Nat):Option Bool :=
  qW a >>= fun r1 =>
  some (r1 != (0:Int))
def oc (a:bf):Option Bool :=
  nP a.P >>= fun r1 =>
  bif r1 then
    bif decide (a.N ≥ (4:Int)) then
      bif decide (a.N≤(13:Int)) then
        some (mJ a.N) >>= fun x1 =>
        bif decide (((x1:Nat):Int) < ((a.P:Nat):Int)) then
          bif decide (a.T ≥ (1:Int)) then
            bif decide (a.T < a.N) then
              lL (3:Int) a.T >>= fun x2 =>
              some (decide (x2 < a.N))
            else
              some false
          else
            some false
        else
          some false
      else
        some false
    else
      some false
  else
    some false
def iM (a:bf) (b:List Int) (k1:Nat):Option (Out Unit Bool) :=
  b[k1]? >>= fun x2 =>
  bif decide (x2 < (1:Int)) then
    some (.fin false)
  else
    bif decide (x2 > a.N) then
      some (.fin false)
    else
      bif decide (((k1:Nat):Int) > (0:Int)) then
        gM ((k1:Nat):Int) (1:Int) >>= fun x3 =>
        eD b x3 >>= fun x4 =>
        bif decide (x4 ≥ x2) then
          some (.fin false)
        else
          some (.go ())
      else
        some (.go ())
def il (a:bf) (b:List Int):Option Bool :=
  (
    oc a >>= fun r1 =>
    bif !r1 then
      some true
    else
      some (decide (((b.length:Nat):Int) > a.T))
  ) >>= fun x1 =>
  bif x1 then
    some false
  else
    oA (fun k1 (st:Unit)=>iM a b k1) (b.length - 0) 0 () >>= fun r2=>kF r2 (fun x=>some x) fun _ =>
    some true
def p9 (a:bf) (b:aS):Option Bool :=
  (
    bif b.Kind == (3:Int) then
      some ((1:Nat):Int)
    else
      some ((0:Nat):Int)
  ) >>= fun x1 =>
  bif decide (b.Round ≥ (0:Int)) then
    bif decide (b.At ≥ (0:Int)) then
      bif decide (b.aV ≥ (0:Int)) then
        bif decide (b.From ≥ (1:Int)) then
          bif decide (b.From≤a.N) then
            bif decide (b.To ≥ (0:Int)) then
              bif decide (b.To≤a.N) then
                bif decide (b.Kind ≥ (1:Int)) then
                  bif decide (b.Kind≤(4:Int)) then
                    bif decide (b.Of ≥ x1) then
                      some (decide (b.Of≤a.N))
                    else
                      some false
                  else
                    some false
                else
                  some false
              else
                some false
            else
              some false
          else
            some false
        else
          some false
      else
        some false
    else
      some false
  else
    some false
def jm (a:aS) (b:ab):Option Bool :=
  p9 b.S a >>= fun r1 =>
  some (!r1)
def bK (a:List aS) (b:ab) (k1:Nat):Option (Out Unit Int) :=
  a[k1]? >>= fun x1 =>
  jm x1 b >>= fun r2 =>
  bif r2 then
    some (.fin ((k1:Nat):Int))
  else
    some (.go ())
def bP (a:List aS) (b:ab):Option Int :=
  oA (fun k1 (st:Unit)=>bK a b k1) (a.length - 0) 0 () >>= fun r1=>kF r1 (fun x=>some x) fun _ =>
  some (-1)
def bq (a:List aS) (b:ab):Option Bool :=
  bP a b >>= fun r1 =>
  some (decide (r1 ≥ (0:Int)))
def iO (a:Nat) (b:ab):Option Bool :=
  some (decide (((a:Nat):Int) ≥ ((b.S.P:Nat):Int)))
def ce (a:List Nat) (b:ab) (k1:Nat):Option (Out Unit Int) :=
  a[k1]? >>= fun x1 =>
  iO x1 b >>= fun r2 =>
  bif r2 then
    some (.fin ((k1:Nat):Int))
  else
    some (.go ())
def cx (a:List Nat) (b:ab):Option Int :=
  oA (fun k1 (st:Unit)=>ce a b k1) (a.length - 0) 0 () >>= fun r1=>kF r1 (fun x=>some x) fun _ =>
  some (-1)
def bD (a:List Nat) (b:ab):Option Bool :=
  cx a b >>= fun r1 =>
  some (decide (r1 ≥ (0:Int)))
def jn (a:List Nat) (b:ab):Option Bool :=
  bD a b >>= fun r1 =>
  some r1
def cc (a:List (List Nat)) (b:ab) (k1:Nat):Option (Out Unit Int) :=
  a[k1]? >>= fun x1 =>
  jn x1 b >>= fun r2 =>
  bif r2 then
    some (.fin ((k1:Nat):Int))
  else
    some (.go ())
def cw (a:List (List Nat)) (b:ab):Option Int :=
  oA (fun k1 (st:Unit)=>cc a b k1) (a.length - 0) 0 () >>= fun r1=>kF r1 (fun x=>some x) fun _ =>
  some (-1)
def bB (a:List (List Nat)) (b:ab):Option Bool :=
  cw a b >>= fun r1 =>
  some (decide (r1 ≥ (0:Int)))
def kf (a:ab):Option Bool :=
  il a.S a.ah >>= fun r1 =>
  bif !r1 then
    some false
  else
    bif ((a.au.length:Nat):Int) != a.S.N then
      some false
    else
      bq a.aa a >>= fun r2 =>
      bif r2 then
        some false
      else
        bB a.au a >>= fun r3 =>
        some (!r3)
def vb (a:List Nat):Option be :=
  some (⟨a,((0:Nat):Int)⟩:be)
def q7 (a:ab) (k1:Nat) (l2:List be):Option (List be) :=
  a.au[k1]? >>= fun x2 =>
  vb x2 >>= fun r3 =>
  cX 8 l2 ([r3]:List be) >>= fun l4 =>
  some l4
def lv (a:ab):Option (Unit ⊕ aB) :=
  kf a >>= fun r1 =>
  bif !r1 then
    some (.inl ())
  else
    oz 24 a.S.N a.S.N ([]:List af) >>= fun l1 =>
    cW (fun k1 (st:(List be))=>q7 a k1 st) (a.au.length - 0) 0 ([]:List be) >>= fun l3 =>
    some (.inr (⟨a,((0:Nat):Int),l1,l3⟩:aB))
def cq (a:aB):Option ab :=
  some a.zw
def kB (a:aB) (b:Int):Option Nat :=
  gM b (1:Int) >>= fun x1 =>
  eD a.al x1 >>= fun x2 =>
  some x1.toNat
def kL (a:be):Option Int :=
  gM ((a.jS.length:Nat):Int) a.zat >>= fun x1 =>
  some x1
def lS (a:be) (b:Int):Option ((List Nat) × Int × Int) :=
  (
    bif decide (b < (0:Int)) then
      some true
    else
      kL a >>= fun r1 =>
      some (decide (b > r1))
  ) >>= fun x1 =>
  bif x1 then
    some (([]:List Nat),((10:Nat):Int),a.zat)
  else
    eO a.zat b >>= fun x2 =>
    qR a.jS a.zat x2 >>= fun l1 =>
    some (l1,((0:Nat):Int),x2)
def ti (a:List Nat) (k1:Nat) (l2:List (List Nat)):Option (List (List Nat)) :=
  oz 8 ((a.length:Nat):Int) ((a.length:Nat):Int) (0:Nat) >>= fun l4 =>
  l2[k1]? >>= fun x6 =>
  some (l2.set k1 l4) >>= fun l5 =>
  some l5
def tj (a:List Nat) (k2:Nat) (l6:List (List Nat)):Option (List (List Nat)) :=
  a[k2]? >>= fun x8 =>
  l6[0]? >>= fun x9 =>
  l6[k2]? >>= fun x10 =>
  x9[k2]? >>= fun x11 =>
  some (x9.set k2 x8) >>= fun l8 =>
  some (l6.set 0 l8) >>= fun l9 =>
  x10[0]? >>= fun x12 =>
  l9[k2]? >>= fun x13 =>
  x13[0]? >>= fun x14 =>
  some (x13.set 0 x8) >>= fun l10 =>
  some (l9.set k2 l10) >>= fun l11 =>
  some l11
def mN (a:List Nat) (k3:Nat) (l16:List Nat) (l17:List (List Nat)) (x16:Int):Option (Out ((List Nat) × (List (List Nat)) × Int) ((List Nat) × (List (List Nat)))) :=
  bif decide (x16 < ((a.length:Nat):Int)) then
    l17[k3]? >>= fun x17 =>
    eD l17 x16 >>= fun x18 =>
    l16[0]? >>= fun x19 =>
    eD x17 x16 >>= fun x20 =>
    some (x17.set x16.toNat x19) >>= fun l22 =>
    some (l17.set k3 l22) >>= fun l23 =>
    x18[k3]? >>= fun x21 =>
    eD l23 x16 >>= fun x22 =>
    x22[k3]? >>= fun x23 =>
    some (x22.set k3 x19) >>= fun l24 =>
    some (l23.set x16.toNat l24) >>= fun l25 =>
    qR l16 (1:Int) ((l16.length:Nat):Int) >>= fun l26 =>
    eO x16 (1:Int) >>= fun x24 =>
    some (.go (l26,l25,x24))
  else
    some (.fin (l16,l17))
def mM (a:List Nat) (k3:Nat) (l12:List Nat) (l13:List (List Nat)):Option ((List Nat) × (List (List Nat))) :=
  qy (fun (st:(List Nat) × (List (List Nat)) × Int)=>mN a k3 st.1 st.2.1 st.2.2) big (l12,l13,((k3:Nat):Int)) >>= fun (l20,l21) =>
  some (l20,l21)
def kO (a:List Nat) (b:List Nat):Option ((List (List Nat)) × Int) :=
  (
    bif ((a.length:Nat):Int) == (0:Int) then
      some true
    else
      gM ((a.length:Nat):Int) (1:Int) >>= fun x2 =>
      lL ((a.length:Nat):Int) x2 >>= fun x3 =>
      xm x3 (2:Int) >>= fun x4 =>
      some (((b.length:Nat):Int) != x4)
  ) >>= fun x1 =>
  bif x1 then
    some (([]:List (List Nat)),((1:Nat):Int))
  else
    oz 24 ((a.length:Nat):Int) ((a.length:Nat):Int) ([]:List Nat) >>= fun l1 =>
    cW (fun k1 (st:(List (List Nat)))=>ti a k1 st) (l1.length - 0) 0 l1 >>= fun l3 =>
    cW (fun k2 (st:(List (List Nat)))=>tj a k2 st) (a.length - 0) 0 l3 >>= fun l7 =>
    ot (max 1 (((a.length:Nat):Int)).toNat) >>= fun u1 =>
    cW (fun k3 (st:(List Nat) × (List (List Nat)))=>mM a k3 st.1 st.2) ((max 1 (((a.length:Nat):Int)).toNat) - 1) 1 (b,l7) >>= fun (l14,l15) =>
    some (l15,((0:Nat):Int))
def eB (a:Int) (b:ao) (x1:List (List Nat)) (k1:Nat) (l1:List be) (l2:List (List (List (List Nat)))):Option ((List be) × (List (List (List (List Nat))))) :=
  x1[k1]? >>= fun x3 =>
  eO a (1:Int) >>= fun x4 =>
  kB (⟨b.zn.zw,b.zn.ai,b.zn.ap,l1⟩:aB) x4 >>= fun r2 =>
  eO b.zs.T (1:Int) >>= fun x5 =>
  lL b.zs.T x5 >>= fun x6 =>
  xm x6 (2:Int) >>= fun x7 =>
  l1[r2]? >>= fun x8 =>
  lS x8 x7 >>= fun r3 =>
  some (l1.set r2 (⟨x8.jS,r3.2.2⟩:be)) >>= fun l5 =>
  kO x3 r3.1 >>= fun r4 =>
  eD l2 a >>= fun x9 =>
  cX 24 x9 ([r4.1]:List (List (List Nat))) >>= fun l6 =>
  some (l2.set a.toNat l6) >>= fun l7 =>
  some (l5,l7)
def gR (a:Int) (b:ao):Option ((List be) × am) :=
  eD b.zq a >>= fun x1 =>
  cW (fun k1 (st:(List be) × (List (List (List (List Nat)))))=>eB a b x1 k1 st.1 st.2) (x1.length - 0) 0 (b.zn.al,b.zd.S) >>= fun (l3,l4) =>
  some (l3,(⟨l4,b.zd.Rows,b.zd.az⟩:am))
def bM (a:ao) (k1:Nat) (l1:List be) (l2:List (List (List (List Nat)))) (l3:List (List (List (List Nat)))) (l4:List (List (List Nat))):Option ((List be) × (List (List (List (List Nat)))) × (List (List (List (List Nat)))) × (List (List (List Nat)))) :=
  gR ((k1:Nat):Int) (⟨(⟨a.zn.zw,a.zn.ai,a.zn.ap,l1⟩:aB),a.zs,a.zq,(⟨l2,l3,l4⟩:am)⟩:ao) >>= fun r2 =>
  some (r2.1,r2.2.S,r2.2.Rows,r2.2.az)
def df (a:ao):Option ((List be) × am) :=
  ot (max 0 (a.zs.N).toNat) >>= fun u1 =>
  cW (fun k1 (st:(List be) × (List (List (List (List Nat)))) × (List (List (List (List Nat)))) × (List (List (List Nat))))=>bM a k1 st.1 st.2.1 st.2.2.1 st.2.2.2) ((max 0 (a.zs.N).toNat) - 0) 0 (a.zn.al,a.zd.S,a.zd.Rows,a.zd.az) >>= fun (l5,l6,l7,l8) =>
  some (l5,(⟨l6,l7,l8⟩:am))
def iK (a:ao):Option ((List be) × am) :=
  df a >>= fun r1 =>
  some (r1.1,r1.2)
def kX (a:Nat) (b:Nat):Option (Nat × Nat) :=
  some (vj a 4294967295) >>= fun x1 =>
  um a (32:Int) >>= fun x2 =>
  some (vj b 4294967295) >>= fun x3 =>
  um b (32:Int) >>= fun x4 =>
  some (uj x1 x3) >>= fun x5 =>
  some (uj x2 x3) >>= fun x6 =>
  um x5 (32:Int) >>= fun x7 =>
  some (ng x6 x7) >>= fun x8 =>
  some (vj x8 4294967295) >>= fun x9 =>
  um x8 (32:Int) >>= fun x10 =>
  some (uj x1 x4) >>= fun x11 =>
  some (ng x9 x11) >>= fun x12 =>
  some (uj x2 x4) >>= fun x13 =>
  some (ng x13 x10) >>= fun x14 =>
  um x12 (32:Int) >>= fun x15 =>
  some (ng x14 x15) >>= fun x16 =>
  some (uj a b) >>= fun x17 =>
  some (x16,x17)
def qn (a:Nat):Option Int :=
  bif a == 31 then
    some ((5:Nat):Int)
  else
    bif a == 127 then
      some ((7:Nat):Int)
    else
      bif a == 8191 then
        some ((13:Nat):Int)
      else
        bif a == 131071 then
          some ((17:Nat):Int)
        else
          bif a == 524287 then
            some ((19:Nat):Int)
          else
            bif a == 2147483647 then
              some ((31:Nat):Int)
            else
              bif a == 2305843009213693951 then
                some ((61:Nat):Int)
              else
                bif a == 1 then
                  some ((1:Nat):Int)
                else
                  bif a == 2 then
                    some ((2:Nat):Int)
                  else
                    bif a == 3 then
                      some ((2:Nat):Int)
                    else
                      bif a == 4 then
                        some ((3:Nat):Int)
                      else
                        bif a == 5 then
                          some ((3:Nat):Int)
                        else
                          bif a == 6 then
                            some ((3:Nat):Int)
                          else
                            bif a == 7 then
                              some ((3:Nat):Int)
                            else
                              none
def qX (a:Nat):Option Nat :=
  qn a >>= fun r1 =>
  some (mJ r1) >>= fun x1 =>
  some x1
def gU (a:Nat) (r1:Nat) (x1:Nat) (x2:Nat):Option (Out (Nat × Nat) Nat) :=
  (
    bif ((x1:Nat):Int) != (0:Int) then
      some true
    else
      some (decide (((x2:Nat):Int) > ((a:Nat):Int)))
  ) >>= fun x5 =>
  bif x5 then
    some (vj x2 a) >>= fun x6 =>
    um x2 ((r1:Nat):Int) >>= fun x7 =>
    some (xZ 64 r1) >>= fun x8 =>
    yP x1 ((x8:Nat):Int) >>= fun x9 =>
    some (IR x7 x9) >>= fun x10 =>
    um x1 ((r1:Nat):Int) >>= fun x11 =>
    some (ng x10 x6) >>= fun x12 =>
    some (DU x10 x6) >>= fun x13 =>
    some (ng x11 x13) >>= fun x14 =>
    some (.go (x14,x12))
  else
    some (.fin x2)
def mS (a:Nat) (b:Nat) (c:Nat):Option Nat :=
  qX a >>= fun r1 =>
  qy (fun (st:Nat × Nat)=>gU a r1 st.1 st.2) big (b,c) >>= fun x4 =>
  bif ((x4:Nat):Int) == ((a:Nat):Int) then
    some 0
  else
    some x4
def mR (a:Nat) (b:Nat) (c:Nat):Option Nat :=
  kX b c >>= fun r1 =>
  mS a r1.1 r1.2 >>= fun r2 =>
  some r2
def mQ (a:Nat) (b:Nat) (c:Nat):Option Nat :=
  some (ng b c) >>= fun x1 =>
  mS a 0 x1 >>= fun r1 =>
  some r1
def mO (a:Nat) (x1:Nat) (x4:List Nat) (k2:Nat) (l4:List Nat):Option (List Nat) :=
  x4[k2]? >>= fun x6 =>
  l4[k2]? >>= fun x7 =>
  mR a x6 x1 >>= fun r3 =>
  mQ a x7 r3 >>= fun r4 =>
  some (l4.set k2 r4) >>= fun l6 =>
  some l6
def iW (a:Nat) (b:List (List Nat)) (c:Nat) (k1:Nat) (l2:List Nat) (x1:Nat):Option ((List Nat) × Nat) :=
  b[k1]? >>= fun x4 =>
  cW (fun k2 (st:(List Nat))=>mO a x1 x4 k2 st) (x4.length - 0) 0 l2 >>= fun l5 =>
  mR a x1 c >>= fun r5 =>
  some (l5,r5)
def gn (a:Nat) (b:List (List Nat)) (c:Nat):Option (List Nat) :=
  oz 8 ((b.length:Nat):Int) ((b.length:Nat):Int) (0:Nat) >>= fun l1 =>
  cW (fun k1 (st:(List Nat) × Nat)=>iW a b c k1 st.1 st.2) (b.length - 0) 0 (l1,1) >>= fun (l3,x3) =>
  some l3
def gF (a:ao) (k1:Nat) (x2:List (List (List Nat))) (k2:Nat) (l3:List Nat):Option (List Nat) :=
  x2[k2]? >>= fun x4 =>
  some (mJ ((k1:Nat):Int)) >>= fun x5 =>
  gn a.zs.P x4 x5 >>= fun r3 =>
  cX 8 l3 r3 >>= fun l5 =>
  some l5
def gE (a:Int) (b:ao) (k1:Nat) (l1:List (List (List Nat))):Option (List (List (List Nat))) :=
  eD b.zd.S a >>= fun x2 =>
  ot x2.length >>= fun u2 =>
  cW (fun k2 (st:(List Nat))=>gF b k1 x2 k2 st) (x2.length - 0) 0 ([]:List Nat) >>= fun l4 =>
  eD l1 a >>= fun x6 =>
  cX 24 x6 ([l4]:List (List Nat)) >>= fun l6 =>
  some (l1.set a.toNat l6) >>= fun l7 =>
  some l7
def fx (a:Int) (b:ao) (c:List (List (List Nat))):Option (List (List (List Nat))) :=
  ot (max 1 (b.zs.N+1).toNat) >>= fun u1 =>
  cW (fun k1 (st:(List (List (List Nat))))=>gE a b k1 st) ((max 1 (b.zs.N+1).toNat) - 1) 1 c >>= fun l2 =>
  some l2
def cP (a:ao) (k1:Nat) (l1:List (List (List Nat))):Option (List (List (List Nat))) :=
  fx ((k1:Nat):Int) a l1 >>= fun r2 =>
  some r2
def ca (a:ao) (b:List (List (List Nat))):Option (List (List (List Nat))) :=
  ot (max 0 (a.zs.N).toNat) >>= fun u1 =>
  cW (fun k1 (st:(List (List (List Nat))))=>cP a k1 st) ((max 0 (a.zs.N).toNat) - 0) 0 b >>= fun l2 =>
  some l2
def cv (a:List (List Nat)):Option (List (List Nat)) :=
  cX 24 ([]:List (List Nat)) a >>= fun l1 =>
  some l1
def iP (a:List Int) (b:Int) (k1:Nat):Option (Out Unit Int) :=
  a[k1]? >>= fun x1 =>
  bif b == x1 then
    some (.fin ((k1:Nat):Int))
  else
    some (.go ())
def jM (a:List Int) (b:Int):Option Int :=
  oA (fun k1 (st:Unit)=>iP a b k1) (a.length - 0) 0 () >>= fun r1=>kF r1 (fun x=>some x) fun _ =>
  some (-1)
def ci (a:List Int) (b:Int):Option Bool :=
  jM a b >>= fun r1 =>
  some (decide (r1 ≥ (0:Int)))
def gZ (a:ab) (b:aS) (c:Int):Option Bool :=
  bif b.Round == c then
    ci a.ah b.From >>= fun r1 =>
    some r1
  else
    some false
def n2 (a:Nat) (b:Nat):Option Nat :=
  mS a 0 b >>= fun r1 =>
  some r1
def dH (a:List Nat):Option (List Nat) :=
  cX 8 ([]:List Nat) a >>= fun l1 =>
  some l1
def iU (a:List Nat) (b:Int):Option Nat :=
  bif decide (b < (0:Int)) then
    some 0
  else
    bif decide (b ≥ ((a.length:Nat):Int)) then
      some 0
    else
      eD a b >>= fun x1 =>
      some x1
def hJ (a:ab) (b:aS) (c:List Nat) (d:List Nat):Option (List Nat) :=
  bif b.Kind == (4:Int) then
    some ([]:List Nat)
  else
    bif decide (b.At ≥ ((c.length:Nat):Int)) then
      some c
    else
      n2 a.S.P b.K >>= fun r1 =>
      dH c >>= fun r2 =>
      bif b.Kind == (1:Int) then
        eD r2 b.At >>= fun x1 =>
        some (r2.set b.At.toNat r1) >>= fun l1 =>
        some l1
      else
        bif b.Kind == (2:Int) then
          eD r2 b.At >>= fun x2 =>
          mQ a.S.P x2 r1 >>= fun r3 =>
          some (r2.set b.At.toNat r3) >>= fun l2 =>
          some l2
        else
          bif b.Kind == (3:Int) then
            ci a.ah b.Of >>= fun r4 =>
            (
              bif !r4 then
                iU d b.aV >>= fun r5 =>
                some r5
              else
                some 0
            ) >>= fun x3 =>
            eD r2 b.At >>= fun x4 =>
            mR a.S.P r1 x3 >>= fun r6 =>
            mQ a.S.P x4 r6 >>= fun r7 =>
            some (r2.set b.At.toNat r7) >>= fun l3 =>
            some l3
          else
            some r2
def cA (a:List (List (List Nat))) (k1:Nat) (l2:List (List (List Nat))):Option (List (List (List Nat))) :=
  a[k1]? >>= fun x2 =>
  cv x2 >>= fun r2 =>
  l2[k1]? >>= fun x3 =>
  some (l2.set k1 r2) >>= fun l4 =>
  some l4
def dp (a:ab) (x5:aS) (l7:List Nat) (x10:Int) (k3:Nat) (l8:List (List (List Nat))):Option (List (List (List Nat))) :=
  (
    eO ((k3:Nat):Int) (1:Int) >>= fun x14 =>
    bif x14 != x5.From then
      bif x5.To == (0:Int) then
        some true
      else
        some (x5.To == x14)
    else
      some false
  ) >>= fun x13 =>
  bif x13 then
    eD l8 x10 >>= fun x15 =>
    x15[k3]? >>= fun x16 =>
    hJ a x5 x16 l7 >>= fun r6 =>
    some (x15.set k3 r6) >>= fun l10 =>
    some (l8.set x10.toNat l10) >>= fun l11 =>
    some l11
  else
    some l8
def dm (a:ab) (b:Int) (c:List (List (List Nat))) (k2:Nat) (l5:List (List (List Nat))):Option (List (List (List Nat))) :=
  a.aa[k2]? >>= fun x5 =>
  gZ a x5 b >>= fun r4 =>
  bif !r4 then
    some l5
  else
    (
      bif x5.Kind == (3:Int) then
        gM x5.Of (1:Int) >>= fun x6 =>
        eD c x6 >>= fun x7 =>
        gM x5.From (1:Int) >>= fun x8 =>
        eD x7 x8 >>= fun x9 =>
        some x9
      else
        some ([]:List Nat)
    ) >>= fun l7 =>
    gM x5.From (1:Int) >>= fun x10 =>
    eD l5 x10 >>= fun x11 =>
    ot x11.length >>= fun u1 =>
    cW (fun k3 (st:(List (List (List Nat))))=>dp a x5 l7 x10 k3 st) (x11.length - 0) 0 l5 >>= fun l9 =>
    some l9
def bl (a:ab) (b:Int) (c:List (List (List Nat))):Option (List (List (List Nat))) :=
  oz 24 ((c.length:Nat):Int) ((c.length:Nat):Int) ([]:List (List Nat)) >>= fun l1 =>
  cW (fun k1 (st:(List (List (List Nat))))=>cA c k1 st) (c.length - 0) 0 l1 >>= fun l3 =>
  cW (fun k2 (st:(List (List (List Nat))))=>dm a b c k2 st) (a.aa.length - 0) 0 l3 >>= fun l6 =>
  some l6
def f9 (a:aB) (b:Int) (c:Int) (d:List Nat):Option (List (List af)) :=
  (
    bif b != c then
      some (decide (((d.length:Nat):Int) > (0:Int)))
    else
      some false
  ) >>= fun x1 =>
  bif x1 then
    eD a.ap b >>= fun x2 =>
    eO c (1:Int) >>= fun x3 =>
    cX 8 ([]:List Nat) d >>= fun l1 =>
    cX 40 x2 ([(⟨a.ai,x3,l1⟩:af)]:List af) >>= fun l2 =>
    some (a.ap.set b.toNat l2) >>= fun l3 =>
    some l3
  else
    some a.ap
def fD (a:aB) (r1:(List (List (List Nat)))) (k1:Nat) (k2:Nat) (l6:List (List af)) (l7:List (List (List Nat))):Option ((List (List af)) × (List (List (List Nat)))) :=
  r1[k2]? >>= fun x3 =>
  x3[k1]? >>= fun x4 =>
  cX 8 ([]:List Nat) x4 >>= fun l10 =>
  l7[k1]? >>= fun x5 =>
  cX 24 x5 ([l10]:List (List Nat)) >>= fun l11 =>
  some (l7.set k1 l11) >>= fun l12 =>
  f9 (⟨a.zw,a.ai,l6,a.al⟩:aB) ((k1:Nat):Int) ((k2:Nat):Int) l10 >>= fun r4 =>
  some (r4,l12)
def fC (a:aB) (r1:(List (List (List Nat)))) (k1:Nat) (l2:List (List af)) (l3:List (List (List Nat))):Option ((List (List af)) × (List (List (List Nat)))) :=
  ot (max 0 (a.zw.S.N).toNat) >>= fun u1 =>
  cW (fun k2 (st:(List (List af)) × (List (List (List Nat))))=>fD a r1 k1 k2 st.1 st.2) ((max 0 (a.zw.S.N).toNat) - 0) 0 (l2,l3) >>= fun (l8,l9) =>
  some (l8,l9)
def fZ (a:aB) (b:List (List (List Nat))):Option ((List (List (List Nat))) × Int × (List (List af))) :=
  bl a.zw a.ai b >>= fun r1 =>
  oz 24 a.zw.S.N a.zw.S.N ([]:List (List Nat)) >>= fun l1 =>
  cW (fun k1 (st:(List (List af)) × (List (List (List Nat))))=>fC a r1 k1 st.1 st.2) (l1.length - 0) 0 (a.ap,l1) >>= fun (l4,l5) =>
  eO a.ai (1:Int) >>= fun x6 =>
  some (l5,x6,l4)
def fq (a:List Nat) (b:Int):Option (List Nat) :=
  oz 8 b b (0:Nat) >>= fun l1 =>
  some (vt l1 a)
def gH (a:Int) (r2:(List Nat)) (k2:Nat) (l3:List (List Nat)):Option (List (List Nat)) :=
  lL ((k2:Nat):Int) a >>= fun x7 =>
  eO ((k2:Nat):Int) (1:Int) >>= fun x8 =>
  lL x8 a >>= fun x9 =>
  qR r2 x7 x9 >>= fun l5 =>
  cX 24 l3 ([l5]:List (List Nat)) >>= fun l6 =>
  some l6
def gG (a:Int) (b:ao) (c:List (List (List Nat))) (d:Int) (k1:Nat) (l1:List (List (List (List Nat)))):Option (List (List (List (List Nat)))) :=
  b.zq[k1]? >>= fun x2 =>
  eD c a >>= fun x3 =>
  x3[k1]? >>= fun x4 =>
  lL ((x2.length:Nat):Int) d >>= fun x5 =>
  fq x4 x5 >>= fun r2 =>
  cW (fun k2 (st:(List (List Nat)))=>gH d r2 k2 st) (x2.length - 0) 0 ([]:List (List Nat)) >>= fun l4 =>
  eD l1 a >>= fun x10 =>
  cX 24 x10 ([l4]:List (List (List Nat))) >>= fun l7 =>
  some (l1.set a.toNat l7) >>= fun l8 =>
  some l8
def fy (a:Int) (b:ao) (c:List (List (List Nat))) (d:Int):Option am :=
  cW (fun k1 (st:(List (List (List (List Nat)))))=>gG a b c d k1 st) (b.zq.length - 0) 0 b.zd.Rows >>= fun l2 =>
  some (⟨b.zd.S,l2,b.zd.az⟩:am)
def bA (a:ao) (b:List (List (List Nat))) (c:Int) (k1:Nat) (l1:List (List (List (List Nat)))) (l2:List (List (List (List Nat)))) (l3:List (List (List Nat))):Option ((List (List (List (List Nat)))) × (List (List (List (List Nat)))) × (List (List (List Nat)))) :=
  fy ((k1:Nat):Int) (⟨a.zn,a.zs,a.zq,(⟨l1,l2,l3⟩:am)⟩:ao) b c >>= fun r2 =>
  some (r2.S,r2.Rows,r2.az)
def cb (a:ao) (b:List (List (List Nat))) (c:Int):Option am :=
  ot (max 0 (a.zs.N).toNat) >>= fun u1 =>
  cW (fun k1 (st:(List (List (List (List Nat)))) × (List (List (List (List Nat)))) × (List (List (List Nat))))=>bA a b c k1 st.1 st.2.1 st.2.2) ((max 0 (a.zs.N).toNat) - 0) 0 (a.zd.S,a.zd.Rows,a.zd.az) >>= fun (l4,l5,l6) =>
  some (⟨l4,l5,l6⟩:am)
def gw (a:ao):Option (Int × (List (List af)) × am) :=
  eO a.zs.T (1:Int) >>= fun x1 =>
  oz 24 a.zs.N a.zs.N ([]:List (List Nat)) >>= fun l1 =>
  ca a l1 >>= fun r1 =>
  fZ a.zn r1 >>= fun r2 =>
  cb (⟨(⟨a.zn.zw,r2.2.1,r2.2.2,a.zn.al⟩:aB),a.zs,a.zq,a.zd⟩:ao) r2.1 x1 >>= fun r3 =>
  some (r2.2.1,r2.2.2,r3)
def lM (a:Nat) (b:List Nat) (c:Nat) (x2:Nat) (x3:Int):Option (Out (Nat × Int) Nat) :=
  bif decide (x3 ≥ (0:Int)) then
    mR a x2 c >>= fun r2 =>
    eD b x3 >>= fun x6 =>
    mQ a r2 x6 >>= fun r3 =>
    gM x3 (1:Int) >>= fun x7 =>
    some (.go (r3,x7))
  else
    some (.fin x2)
def jD (a:Nat) (b:List Nat) (c:Nat):Option Nat :=
  gM ((b.length:Nat):Int) (1:Int) >>= fun x1 =>
  qy (fun (st:Nat × Int)=>lM a b c st.1 st.2) big (0,x1) >>= fun x5 =>
  some x5
def lC (a:ao) (b:Int) (x3:List (List Nat)) (k2:Nat) (l3:List Nat):Option (List Nat) :=
  x3[k2]? >>= fun x5 =>
  some (mJ b) >>= fun x6 =>
  jD a.zs.P x5 x6 >>= fun r3 =>
  cX 8 l3 ([r3]:List Nat) >>= fun l5 =>
  some l5
def i7 (a:ao) (b:Int) (x1:List (List (List Nat))) (k1:Nat) (l1:List Nat):Option (List Nat) :=
  x1[k1]? >>= fun x3 =>
  cW (fun k2 (st:(List Nat))=>lC a b x3 k2 st) (x3.length - 0) 0 l1 >>= fun l4 =>
  some l4
def gI (a:ao) (b:Int) (c:Int):Option (List Nat) :=
  eD a.zd.Rows b >>= fun x1 =>
  ot x1.length >>= fun u1 =>
  cW (fun k1 (st:(List Nat))=>i7 a c x1 k1 st) (x1.length - 0) 0 ([]:List Nat) >>= fun l2 =>
  some l2
def ky (a:Int) (b:ao) (k1:Nat) (l1:List (List (List Nat))):Option (List (List (List Nat))) :=
  eD l1 a >>= fun x2 =>
  gI b a ((k1:Nat):Int) >>= fun r2 =>
  cX 24 x2 ([r2]:List (List Nat)) >>= fun l3 =>
  some (l1.set a.toNat l3) >>= fun l4 =>
  some l4
def i6 (a:Int) (b:ao) (c:List (List (List Nat))):Option (List (List (List Nat))) :=
  ot (max 1 (b.zs.N+1).toNat) >>= fun u1 =>
  cW (fun k1 (st:(List (List (List Nat))))=>ky a b k1 st) ((max 1 (b.zs.N+1).toNat) - 1) 1 c >>= fun l2 =>
  some l2
def eC (a:ao) (k1:Nat) (l1:List (List (List Nat))):Option (List (List (List Nat))) :=
  i6 ((k1:Nat):Int) a l1 >>= fun r2 =>
  some r2
def cy (a:ao) (b:List (List (List Nat))):Option (List (List (List Nat))) :=
  ot (max 0 (a.zs.N).toNat) >>= fun u1 =>
  cW (fun k1 (st:(List (List (List Nat))))=>eC a k1 st) ((max 0 (a.zs.N).toNat) - 0) 0 b >>= fun l2 =>
  some l2
def ir (a:ao):Option ((List (List (List Nat))) × Int × (List (List af))) :=
  oz 24 a.zs.N a.zs.N ([]:List (List Nat)) >>= fun l1 =>
  cy a l1 >>= fun r1 =>
  fZ a.zn r1 >>= fun r2 =>
  some (r2.1,r2.2.1,r2.2.2)
def fB (a:ao) (k1:Nat) (r2:(List Nat)) (r3:(List Nat)) (k2:Nat) (k3:Nat) (l6:List Nat) (x9:Int):Option ((List Nat) × Int) :=
  eD r3 x9 >>= fun x12 =>
  eD r2 x9 >>= fun x13 =>
  bif ((x12:Nat):Int) != ((x13:Nat):Int) then
    lL ((k2:Nat):Int) a.zs.N >>= fun x14 =>
    eO x14 ((k1:Nat):Int) >>= fun x15 =>
    eD l6 x15 >>= fun x16 =>
    some (l6.set x15.toNat 1) >>= fun l8 =>
    eO x9 (1:Int) >>= fun x17 =>
    some (l8,x17)
  else
    eO x9 (1:Int) >>= fun x18 =>
    some (l6,x18)
def fA (a:ao) (k1:Nat) (r2:(List Nat)) (r3:(List Nat)) (k2:Nat) (l4:List Nat) (x5:Int):Option ((List Nat) × Int) :=
  a.zq[k2]? >>= fun x8 =>
  cW (fun k3 (st:(List Nat) × Int)=>fB a k1 r2 r3 k2 k3 st.1 st.2) (x8.length - 0) 0 (l4,x5) >>= fun (l7,x11) =>
  some (l7,x11)
def jy (a:ao) (b:Int) (c:List (List Nat)) (k1:Nat) (l2:List Nat):Option (List Nat) :=
  bif ((k1:Nat):Int) == b then
    some l2
  else
    eO ((k1:Nat):Int) (1:Int) >>= fun x3 =>
    gI a b x3 >>= fun r2 =>
    c[k1]? >>= fun x4 =>
    fq x4 ((r2.length:Nat):Int) >>= fun r3 =>
    cW (fun k2 (st:(List Nat) × Int)=>fA a k1 r2 r3 k2 st.1 st.2) (a.zq.length - 0) 0 (l2,((0:Nat):Int)) >>= fun (l5,x7) =>
    some l5
def dB (a:ao) (b:Int) (c:List (List Nat)):Option (List Nat) :=
  lL a.zs.N a.zs.N >>= fun x1 =>
  oz 8 x1 x1 (0:Nat) >>= fun l1 =>
  ot (max 0 (a.zs.N).toNat) >>= fun u1 =>
  cW (fun k1 (st:(List Nat))=>jy a b c k1 st) ((max 0 (a.zs.N).toNat) - 0) 0 l1 >>= fun l3 =>
  some l3
def iQ (a:Int) (b:ao) (c:List (List (List Nat))) (d:List (List Nat)):Option (List (List Nat)) :=
  eD c a >>= fun x1 =>
  dB b a x1 >>= fun r1 =>
  eD d a >>= fun x2 =>
  some (d.set a.toNat r1) >>= fun l1 =>
  some l1
def dU (a:ao) (b:List (List (List Nat))) (k1:Nat) (l1:List (List Nat)):Option (List (List Nat)) :=
  iQ ((k1:Nat):Int) a b l1 >>= fun r2 =>
  some r2
def cj (a:ao) (b:List (List (List Nat))) (c:List (List Nat)):Option (List (List Nat)) :=
  ot (max 0 (a.zs.N).toNat) >>= fun u1 =>
  cW (fun k1 (st:(List (List Nat)))=>dU a b k1 st) ((max 0 (a.zs.N).toNat) - 0) 0 c >>= fun l2 =>
  some l2
def dc (a:ab) (b:Int) (c:List (List Nat)) (k1:Nat) (l1:List (List Nat)):Option (List (List Nat)) :=
  a.aa[k1]? >>= fun x2 =>
  gZ a x2 b >>= fun r3 =>
  bif !r3 then
    some l1
  else
    (
      bif x2.Kind == (3:Int) then
        gM x2.Of (1:Int) >>= fun x3 =>
        eD c x3 >>= fun x4 =>
        some x4
      else
        some ([]:List Nat)
    ) >>= fun l3 =>
    gM x2.From (1:Int) >>= fun x5 =>
    eD l1 x5 >>= fun x6 =>
    hJ a x2 x6 l3 >>= fun r4 =>
    some (l1.set x5.toNat r4) >>= fun l4 =>
    some l4
def aU (a:ab) (b:Int) (c:List (List Nat)):Option (List (List Nat)) :=
  cv c >>= fun r1 =>
  cW (fun k1 (st:(List (List Nat)))=>dc a b c k1 st) (a.aa.length - 0) 0 r1 >>= fun l2 =>
  some l2
def du (a:aB) (k1:Nat) (l7:List (List Nat)) (k2:Nat) (l8:List (List af)):Option (List (List af)) :=
  l7[k1]? >>= fun x5 =>
  f9 (⟨a.zw,a.ai,l8,a.al⟩:aB) ((k2:Nat):Int) ((k1:Nat):Int) x5 >>= fun r4 =>
  some r4
def cK (a:aB) (r1:(List (List Nat))) (k1:Nat) (l2:List (List af)) (l3:List (List Nat)):Option ((List (List af)) × (List (List Nat))) :=
  r1[k1]? >>= fun x2 =>
  cX 8 ([]:List Nat) x2 >>= fun l6 =>
  l3[k1]? >>= fun x3 =>
  some (l3.set k1 l6) >>= fun l7 =>
  cW (fun k2 (st:(List (List af)))=>du a k1 l7 k2 st) (l7.length - 0) 0 l2 >>= fun l9 =>
  some (l9,l7)
def bW (a:aB) (b:List (List Nat)):Option ((List (List Nat)) × Int × (List (List af))) :=
  aU a.zw a.ai b >>= fun r1 =>
  oz 24 a.zw.S.N a.zw.S.N (([]:List Nat):List Nat) >>= fun l1 =>
  cW (fun k1 (st:(List (List af)) × (List (List Nat)))=>cK a r1 k1 st.1 st.2) (l1.length - 0) 0 (a.ap,l1) >>= fun (l4,l5) =>
  eO a.ai (1:Int) >>= fun x6 =>
  some (l5,x6,l4)
def j6 (a:Int) (b:ao) (r1:(List Nat)) (k1:Nat) (l1:List (List (List Nat))):Option (List (List (List Nat))) :=
  eD l1 a >>= fun x4 =>
  lL ((k1:Nat):Int) b.zs.N >>= fun x5 =>
  eO ((k1:Nat):Int) (1:Int) >>= fun x6 =>
  lL x6 b.zs.N >>= fun x7 =>
  qR r1 x5 x7 >>= fun l3 =>
  cX 24 x4 ([l3]:List (List Nat)) >>= fun l4 =>
  some (l1.set a.toNat l4) >>= fun l5 =>
  some l5
def gu (a:Int) (b:List (List Nat)) (c:ao):Option am :=
  eD b a >>= fun x1 =>
  lL c.zs.N c.zs.N >>= fun x2 =>
  fq x1 x2 >>= fun r1 =>
  ot (max 0 (c.zs.N).toNat) >>= fun u1 =>
  cW (fun k1 (st:(List (List (List Nat))))=>j6 a c r1 k1 st) ((max 0 (c.zs.N).toNat) - 0) 0 c.zd.az >>= fun l2 =>
  some (⟨c.zd.S,c.zd.Rows,l2⟩:am)
def bG (a:ao) (b:List (List Nat)) (k1:Nat) (l1:List (List (List (List Nat)))) (l2:List (List (List (List Nat)))) (l3:List (List (List Nat))):Option ((List (List (List (List Nat)))) × (List (List (List (List Nat)))) × (List (List (List Nat)))) :=
  gu ((k1:Nat):Int) b (⟨a.zn,a.zs,a.zq,(⟨l1,l2,l3⟩:am)⟩:ao) >>= fun r2 =>
  some (r2.S,r2.Rows,r2.az)
def ck (a:ao) (b:List (List Nat)):Option am :=
  ot (max 0 (a.zs.N).toNat) >>= fun u1 =>
  cW (fun k1 (st:(List (List (List (List Nat)))) × (List (List (List (List Nat)))) × (List (List (List Nat))))=>bG a b k1 st.1 st.2.1 st.2.2) ((max 0 (a.zs.N).toNat) - 0) 0 (a.zd.S,a.zd.Rows,a.zd.az) >>= fun (l4,l5,l6) =>
  some (⟨l4,l5,l6⟩:am)
def gS (a:ao) (b:List (List (List Nat))):Option (Int × (List (List af)) × am) :=
  oz 24 a.zs.N a.zs.N (([]:List Nat):List Nat) >>= fun l1 =>
  cj a b l1 >>= fun r1 =>
  bW a.zn r1 >>= fun r2 =>
  ck (⟨(⟨a.zn.zw,r2.2.1,r2.2.2,a.zn.al⟩:aB),a.zs,a.zq,a.zd⟩:ao) r2.1 >>= fun r3 =>
  some (r2.2.1,r2.2.2,r3)
def ik (a:aB) (b:List (List (List Nat))):Option (am × Int × (List (List af)) × (List be)) :=
  cq a >>= fun r1 =>
  oz 24 r1.S.N r1.S.N ([]:List (List (List Nat))) >>= fun l1 =>
  oz 24 r1.S.N r1.S.N ([]:List (List Nat)) >>= fun l2 =>
  iK (⟨a,r1.S,b,(⟨l1,l1,l2⟩:am)⟩:ao) >>= fun r2 =>
  gw (⟨(⟨a.zw,a.ai,a.ap,r2.1⟩:aB),r1.S,b,r2.2⟩:ao) >>= fun r3 =>
  ir (⟨(⟨a.zw,r3.1,r3.2.1,r2.1⟩:aB),r1.S,b,r3.2.2⟩:ao) >>= fun r4 =>
  gS (⟨(⟨a.zw,r4.2.1,r4.2.2,r2.1⟩:aB),r1.S,b,r3.2.2⟩:ao) r4.1 >>= fun r5 =>
  some (r5.2.2,r5.1,r5.2.1,r2.1)
def br (a:aC):Option Int :=
  some ((a.zd.Rows.length:Nat):Int)
def mK (k1:Nat) (x3:List Nat) (k2:Nat) (l3:List bF):Option (List bF) :=
  x3[k2]? >>= fun x5 =>
  bif ((x5:Nat):Int) != (0:Int) then
    cX 16 l3 ([(⟨((k1:Nat):Int),((k2:Nat):Int)⟩:bF)]:List bF) >>= fun l5 =>
    some l5
  else
    some l3
def jN (a:aC) (b:Int) (k1:Nat) (l1:List bF):Option (List bF) :=
  a.zd.az[k1]? >>= fun x2 =>
  eD x2 b >>= fun x3 =>
  cW (fun k2 (st:(List bF))=>mK k1 x3 k2 st) (x3.length - 0) 0 l1 >>= fun l4 =>
  some l4
def gk (a:aC) (b:Int):Option (List bF) :=
  br a >>= fun r1 =>
  ot (max 0 (r1).toNat) >>= fun u1 =>
  cW (fun k1 (st:(List bF))=>jN a b k1 st) ((max 0 (r1).toNat) - 0) 0 ([]:List bF) >>= fun l2 =>
  some l2
def qg (a:Int):Option Nat :=
  eO a (1:Int) >>= fun x1 =>
  some (mJ x1) >>= fun x2 =>
  some x2
def lF (a:Nat) (b:List (List Nat)) (c:Nat) (d:Nat):Option Nat :=
  gn a b c >>= fun r1 =>
  jD a r1 d >>= fun r2 =>
  some r2
def gK (a:aC) (b:Int):Option Int :=
  eD a.zd.S b >>= fun x1 =>
  some ((x1.length:Nat):Int)
def i5 (a:m6) (b:Int):Option ((List Nat) × (List Nat)) :=
  fq a.zl b >>= fun r1 =>
  some (min b ((a.zl.length:Nat):Int)) >>= fun x1 =>
  qR a.zl x1 ((a.zl.length:Nat):Int) >>= fun l1 =>
  some (r1,l1)
def nI (a:aC) (x3:bF) (x4:List (List (List Nat))) (k3:Nat) (l5:List Nat):Option (List Nat) :=
  x4[k3]? >>= fun x6 =>
  qg x3.e0 >>= fun r6 =>
  qg x3.e1 >>= fun r7 =>
  lF a.zp x6 r6 r7 >>= fun r8 =>
  cX 8 l5 ([r8]:List Nat) >>= fun l7 =>
  some l7
def ku (a:aC) (k1:Nat) (r3:(List bF)) (k2:Nat) (l3:List Nat):Option (List Nat) :=
  r3[k2]? >>= fun x3 =>
  a.zd.S[k1]? >>= fun x4 =>
  cW (fun k3 (st:(List Nat))=>nI a x3 x4 k3 st) (x4.length - 0) 0 l3 >>= fun l6 =>
  some l6
def kt (a:aC) (k1:Nat) (l1:List (List Nat)):Option (List (List Nat)) :=
  gk a ((k1:Nat):Int) >>= fun r3 =>
  cW (fun k2 (st:(List Nat))=>ku a k1 r3 k2 st) (r3.length - 0) 0 ([]:List Nat) >>= fun l4 =>
  cX 24 l1 ([l4]:List (List Nat)) >>= fun l8 =>
  some l8
def gD (a:aC) (r9:(List (List Nat)) × Int × (List (List af))) (k4:Nat) (k5:Nat) (l11:List Nat) (l12:List (List Nat)):Option ((List Nat) × (List (List Nat))) :=
  gK (⟨(⟨a.zn.zw,r9.2.1,r9.2.2,a.zn.al⟩:aB),a.zp,a.zd,a.bd,a.bX,a.cZ⟩:aC) ((k4:Nat):Int) >>= fun r14 =>
  i5 (⟨l11⟩:m6) r14 >>= fun r15 =>
  cX 24 l12 ([r15.1]:List (List Nat)) >>= fun l15 =>
  some (r15.2,l15)
def nJ (a:aC) (r9:(List (List Nat)) × Int × (List (List af))) (k4:Nat) (l9:List (List (List Nat))):Option (List (List (List Nat))) :=
  r9.1[k4]? >>= fun x8 =>
  gk (⟨(⟨a.zn.zw,r9.2.1,r9.2.2,a.zn.al⟩:aB),a.zp,a.zd,a.bd,a.bX,a.cZ⟩:aC) ((k4:Nat):Int) >>= fun r12 =>
  cW (fun k5 (st:(List Nat) × (List (List Nat)))=>gD a r9 k4 k5 st.1 st.2) (r12.length - 0) 0 (x8,([]:List (List Nat))) >>= fun (l13,l14) =>
  cX 24 l9 ([l14]:List (List (List Nat))) >>= fun l16 =>
  some l16
def j0 (a:aC):Option ((List (List (List Nat))) × Int × (List (List af))) :=
  br a >>= fun r1 =>
  ot (max 0 (r1).toNat) >>= fun u1 =>
  cW (fun k1 (st:(List (List Nat)))=>kt a k1 st) ((max 0 (r1).toNat) - 0) 0 ([]:List (List Nat)) >>= fun l2 =>
  bW a.zn l2 >>= fun r9 =>
  br (⟨(⟨a.zn.zw,r9.2.1,r9.2.2,a.zn.al⟩:aB),a.zp,a.zd,a.bd,a.bX,a.cZ⟩:aC) >>= fun r10 =>
  ot (max 0 (r10).toNat) >>= fun u2 =>
  cW (fun k4 (st:(List (List (List Nat))))=>nJ a r9 k4 st) ((max 0 (r10).toNat) - 0) 0 ([]:List (List (List Nat))) >>= fun l10 =>
  some (l10,r9.2.1,r9.2.2)
def qh (a:bF) (b:Int):Option (List Int) :=
  (
    bif a.e0 == b then
      cX 8 ([]:List Int) ([a.e1]:List Int) >>= fun l2 =>
      some l2
    else
      some ([]:List Int)
  ) >>= fun l1 =>
  bif a.e1 == b then
    cX 8 l1 ([a.e0]:List Int) >>= fun l3 =>
    some l3
  else
    some l1
def kU (a:aC) (b:Int) (c:Int) (d:Int):Option (List Nat) :=
  eD a.zd.Rows b >>= fun x1 =>
  eD x1 c >>= fun x2 =>
  eD x2 d >>= fun x3 =>
  some x3
def kx (a:aC) (b:Int) (c:Int) (x2:Int) (x3:List Nat) (k3:Nat):Option (Out Unit Bool) :=
  x3[k3]? >>= fun x4 =>
  kU a b c ((k3:Nat):Int) >>= fun r6 =>
  qg x2 >>= fun r7 =>
  jD a.zp r6 r7 >>= fun r8 =>
  bif ((r8:Nat):Int) != ((x4:Nat):Int) then
    some (.fin true)
  else
    some (.go ())
def kw (a:aC) (b:Int) (c:Int) (d:List (List Nat)) (k1:Nat) (r3:(List Int)) (k2:Nat):Option (Out Unit Bool) :=
  r3[k2]? >>= fun x2 =>
  d[k1]? >>= fun x3 =>
  oA (fun k3 (st:Unit)=>kx a b c x2 x3 k3) (x3.length - 0) 0 () >>= fun r5=>kF r5 (fun x=>some (.fin x)) fun _ =>
  some (.go ())
def kv (a:aC) (b:Int) (c:Int) (d:List (List Nat)) (r1:(List bF)) (k1:Nat):Option (Out Unit Bool) :=
  r1[k1]? >>= fun x1 =>
  qh x1 b >>= fun r3 =>
  oA (fun k2 (st:Unit)=>kw a b c d k1 r3 k2) (r3.length - 0) 0 () >>= fun r4=>kF r4 (fun x=>some (.fin x)) fun _ =>
  some (.go ())
def j5 (a:aC) (b:Int) (c:Int) (d:List (List Nat)):Option Bool :=
  gk a c >>= fun r1 =>
  oA (fun k1 (st:Unit)=>kv a b c d r1 k1) (r1.length - 0) 0 () >>= fun r2=>kF r2 (fun x=>some x) fun _ =>
  some false
def ij (a:Int) (b:Int) (c:aC) (d:List (List (List Nat))):Option Bool :=
  eD d b >>= fun x1 =>
  j5 c a b x1 >>= fun r1 =>
  some r1
def kW (a:aC) (b:List (List (List Nat))) (k1:Nat) (k2:Nat) (l3:List Nat):Option (List Nat) :=
  ij ((k1:Nat):Int) ((k2:Nat):Int) a b >>= fun r4 =>
  bif r4 then
    cX 8 l3 ([1]:List Nat) >>= fun l5 =>
    some l5
  else
    cX 8 l3 ([0]:List Nat) >>= fun l6 =>
    some l6
def kV (a:aC) (b:List (List (List Nat))) (r1:Int) (k1:Nat) (l1:List (List Nat)):Option (List (List Nat)) :=
  cW (fun k2 (st:(List Nat))=>kW a b k1 k2 st) ((max 0 (r1).toNat) - 0) 0 ([]:List Nat) >>= fun l4 =>
  cX 24 l1 ([l4]:List (List Nat)) >>= fun l7 =>
  some l7
def gV (r5:(List (List Nat)) × Int × (List (List af))) (r6:Int) (k3:Nat) (k4:Nat) (l11:List (List Bool)):Option (List (List Bool)) :=
  l11[k3]? >>= fun x5 =>
  r5.1[k4]? >>= fun x6 =>
  fq x6 r6 >>= fun r9 =>
  r9[k3]? >>= fun x7 =>
  cX 1 x5 ([((x7:Nat):Int) != (0:Int)]:List Bool) >>= fun l13 =>
  some (l11.set k3 l13) >>= fun l14 =>
  some l14
def eY (r5:(List (List Nat)) × Int × (List (List af))) (r6:Int) (k3:Nat) (l9:List (List Bool)):Option (List (List Bool)) :=
  ot (max 0 (r6).toNat) >>= fun u2 =>
  cW (fun k4 (st:(List (List Bool)))=>gV r5 r6 k3 k4 st) ((max 0 (r6).toNat) - 0) 0 l9 >>= fun l12 =>
  some l12
def fw (a:aC) (b:List (List (List Nat))):Option ((List (List Bool)) × Int × (List (List af))) :=
  br a >>= fun r1 =>
  ot (max 0 (r1).toNat) >>= fun u1 =>
  cW (fun k1 (st:(List (List Nat)))=>kV a b r1 k1 st) ((max 0 (r1).toNat) - 0) 0 ([]:List (List Nat)) >>= fun l2 =>
  bW a.zn l2 >>= fun r5 =>
  br (⟨(⟨a.zn.zw,r5.2.1,r5.2.2,a.zn.al⟩:aB),a.zp,a.zd,a.bd,a.bX,a.cZ⟩:aC) >>= fun r6 =>
  oz 24 r6 r6 ([]:List Bool) >>= fun l8 =>
  cW (fun k3 (st:(List (List Bool)))=>eY r5 r6 k3 st) (l8.length - 0) 0 l8 >>= fun l10 =>
  some (l10,r5.2.1,r5.2.2)
def oS (a:aC) (k2:Nat) (x5:List (List (List Nat))) (k3:Nat) (l5:List Nat):Option (List Nat) :=
  x5[k3]? >>= fun x7 =>
  qg ((k2:Nat):Int) >>= fun r5 =>
  gn a.zp x7 r5 >>= fun r6 =>
  cX 8 l5 r6 >>= fun l7 =>
  some l7
def lZ (a:aC) (k1:Nat) (x2:List Bool) (k2:Nat) (l3:List Nat):Option (List Nat) :=
  x2[k2]? >>= fun x4 =>
  bif x4 then
    a.zd.S[k1]? >>= fun x5 =>
    cW (fun k3 (st:(List Nat))=>oS a k2 x5 k3 st) (x5.length - 0) 0 l3 >>= fun l6 =>
    some l6
  else
    some l3
def lY (a:aC) (k1:Nat) (l1:List (List Nat)):Option (List (List Nat)) :=
  a.bd[k1]? >>= fun x2 =>
  cW (fun k2 (st:(List Nat))=>lZ a k1 x2 k2 st) (x2.length - 0) 0 ([]:List Nat) >>= fun l4 =>
  cX 24 l1 ([l4]:List (List Nat)) >>= fun l8 =>
  some l8
def iJ (x8:Int) (k5:Nat) (k6:Nat) (l16:List Nat) (l17:List (List (List Nat))):Option ((List Nat) × (List (List (List Nat)))) :=
  l17[k5]? >>= fun x15 =>
  i5 (⟨l16⟩:m6) x8 >>= fun r15 =>
  cX 24 x15 ([r15.1]:List (List Nat)) >>= fun l20 =>
  some (l17.set k5 l20) >>= fun l21 =>
  some (r15.2,l21)
def gJ (a:aC) (r7:(List (List Nat)) × Int × (List (List af))) (x8:Int) (l9:List (List (List (List Nat)))) (k4:Nat) (x11:List Bool) (k5:Nat) (l12:List Nat) (l13:List (List (List Nat))):Option ((List Nat) × (List (List (List Nat)))) :=
  x11[k5]? >>= fun x13 =>
  bif x13 then
    gK (⟨(⟨a.zn.zw,r7.2.1,r7.2.2,a.zn.al⟩:aB),a.zp,a.zd,a.bd,a.bX,l9⟩:aC) ((k4:Nat):Int) >>= fun r13 =>
    ot (max 0 (r13).toNat) >>= fun u3 =>
    cW (fun k6 (st:(List Nat) × (List (List (List Nat))))=>iJ x8 k5 k6 st.1 st.2) ((max 0 (r13).toNat) - 0) 0 (l12,l13) >>= fun (l18,l19) =>
    some (l18,l19)
  else
    some (l12,l13)
def oT (a:aC) (r7:(List (List Nat)) × Int × (List (List af))) (x8:Int) (k4:Nat) (l9:List (List (List (List Nat)))):Option (List (List (List (List Nat)))) :=
  r7.1[k4]? >>= fun x10 =>
  br (⟨(⟨a.zn.zw,r7.2.1,r7.2.2,a.zn.al⟩:aB),a.zp,a.zd,a.bd,a.bX,l9⟩:aC) >>= fun r11 =>
  oz 24 r11 r11 ([]:List (List Nat)) >>= fun l11 =>
  a.bd[k4]? >>= fun x11 =>
  cW (fun k5 (st:(List Nat) × (List (List (List Nat))))=>gJ a r7 x8 l9 k4 x11 k5 st.1 st.2) (x11.length - 0) 0 (x10,l11) >>= fun (l14,l15) =>
  cX 24 l9 ([l15]:List (List (List (List Nat)))) >>= fun l22 =>
  some l22
def lX (a:aC):Option (Int × (List (List af)) × (List (List (List (List Nat))))) :=
  br a >>= fun r1 =>
  ot (max 0 (r1).toNat) >>= fun u1 =>
  cW (fun k1 (st:(List (List Nat)))=>lY a k1 st) ((max 0 (r1).toNat) - 0) 0 ([]:List (List Nat)) >>= fun l2 =>
  bW a.zn l2 >>= fun r7 =>
  cq (⟨a.zn.zw,r7.2.1,r7.2.2,a.zn.al⟩:aB) >>= fun r8 =>
  eO r8.S.T (1:Int) >>= fun x8 =>
  br (⟨(⟨a.zn.zw,r7.2.1,r7.2.2,a.zn.al⟩:aB),a.zp,a.zd,a.bd,a.bX,a.cZ⟩:aC) >>= fun r9 =>
  ot (max 0 (r9).toNat) >>= fun u2 =>
  cW (fun k4 (st:(List (List (List (List Nat)))))=>oT a r7 x8 k4 st) ((max 0 (r9).toNat) - 0) 0 a.cZ >>= fun l10 =>
  some (r7.2.1,r7.2.2,l10)
def jw (a:aC) (b:Int) (c:Int) (k1:Nat) (x4:List (List Nat)) (k2:Nat):Option (Out Unit Bool) :=
  x4[k2]? >>= fun x5 =>
  qg b >>= fun r3 =>
  jD a.zp x5 r3 >>= fun r4 =>
  kU a b c ((k2:Nat):Int) >>= fun r5 =>
  qg ((k1:Nat):Int) >>= fun r6 =>
  jD a.zp r5 r6 >>= fun r7 =>
  bif ((r4:Nat):Int) != ((r7:Nat):Int) then
    some (.fin true)
  else
    some (.go ())
def jv (a:aC) (b:Int) (c:Int) (x3:List (List (List Nat))) (k1:Nat):Option (Out Unit Bool) :=
  x3[k1]? >>= fun x4 =>
  oA (fun k2 (st:Unit)=>jw a b c k1 x4 k2) (x4.length - 0) 0 () >>= fun r2=>kF r2 (fun x=>some (.fin x)) fun _ =>
  some (.go ())
def dA (a:aC) (b:Int) (c:Int):Option Bool :=
  eD a.bd c >>= fun x1 =>
  eD x1 b >>= fun x2 =>
  bif x2 then
    some false
  else
    eD a.cZ c >>= fun x3 =>
    oA (fun k1 (st:Unit)=>jv a b c x3 k1) (x3.length - 0) 0 () >>= fun r1=>kF r1 (fun x=>some x) fun _ =>
    some false
def jP (a:aC) (k1:Nat) (k2:Nat) (l3:List Nat):Option (List Nat) :=
  dA a ((k1:Nat):Int) ((k2:Nat):Int) >>= fun r4 =>
  bif r4 then
    cX 8 l3 ([1]:List Nat) >>= fun l5 =>
    some l5
  else
    cX 8 l3 ([0]:List Nat) >>= fun l6 =>
    some l6
def jO (a:aC) (r1:Int) (k1:Nat) (l1:List (List Nat)):Option (List (List Nat)) :=
  cW (fun k2 (st:(List Nat))=>jP a k1 k2 st) ((max 0 (r1).toNat) - 0) 0 ([]:List Nat) >>= fun l4 =>
  cX 24 l1 ([l4]:List (List Nat)) >>= fun l7 =>
  some l7
def jR (r5:(List (List Nat)) × Int × (List (List af))) (r6:Int) (k3:Nat) (k4:Nat) (l11:List (List Bool)):Option (List (List Bool)) :=
  l11[k3]? >>= fun x5 =>
  r5.1[k4]? >>= fun x6 =>
  fq x6 r6 >>= fun r9 =>
  r9[k3]? >>= fun x7 =>
  cX 1 x5 ([((x7:Nat):Int) != (0:Int)]:List Bool) >>= fun l13 =>
  some (l11.set k3 l13) >>= fun l14 =>
  some l14
def jQ (r5:(List (List Nat)) × Int × (List (List af))) (r6:Int) (k3:Nat) (l9:List (List Bool)):Option (List (List Bool)) :=
  ot (max 0 (r6).toNat) >>= fun u2 =>
  cW (fun k4 (st:(List (List Bool)))=>jR r5 r6 k3 k4 st) ((max 0 (r6).toNat) - 0) 0 l9 >>= fun l12 =>
  some l12
def dX (a:aC):Option ((List (List Bool)) × Int × (List (List af))) :=
  br a >>= fun r1 =>
  ot (max 0 (r1).toNat) >>= fun u1 =>
  cW (fun k1 (st:(List (List Nat)))=>jO a r1 k1 st) ((max 0 (r1).toNat) - 0) 0 ([]:List (List Nat)) >>= fun l2 =>
  bW a.zn l2 >>= fun r5 =>
  br (⟨(⟨a.zn.zw,r5.2.1,r5.2.2,a.zn.al⟩:aB),a.zp,a.zd,a.bd,a.bX,a.cZ⟩:aC) >>= fun r6 =>
  oz 24 r6 r6 ([]:List Bool) >>= fun l8 =>
  cW (fun k3 (st:(List (List Bool)))=>jQ r5 r6 k3 st) (l8.length - 0) 0 l8 >>= fun l10 =>
  some (l10,r5.2.1,r5.2.2)
def m5 (a:aC) (b:Int) (k1:Nat) (x1:Int):Option Int :=
  eD a.bd b >>= fun x4 =>
  x4[k1]? >>= fun x5 =>
  bif x5 then
    eO x1 (1:Int) >>= fun x6 =>
    some x6
  else
    eD a.bX b >>= fun x7 =>
    x7[k1]? >>= fun x8 =>
    bif x8 then
      eO x1 (1:Int) >>= fun x9 =>
      some x9
    else
      some x1
def m9 (a:aC) (b:Int):Option Bool :=
  br a >>= fun r1 =>
  ot (max 0 (r1).toNat) >>= fun u1 =>
  cW (fun k1 (st:Int)=>m5 a b k1 st) ((max 0 (r1).toNat) - 0) 0 ((0:Nat):Int) >>= fun x3 =>
  cq a.zn >>= fun r3 =>
  some (decide (x3 > r3.S.T))
def oR (a:aC) (k1:Nat) (l2:List (List Nat)):Option (List (List Nat)) :=
  cq a.zn >>= fun r3 =>
  eO r3.S.T (1:Int) >>= fun x2 =>
  oz 8 x2 x2 (0:Nat) >>= fun l4 =>
  l2[k1]? >>= fun x3 =>
  some (l2.set k1 l4) >>= fun l5 =>
  some l5
def lW (a:aC) (b:Int) (c:Int) (d:Bool):Option (List (List Nat)) :=
  bif d then
    gK a c >>= fun r1 =>
    oz 24 r1 r1 (([]:List Nat):List Nat) >>= fun l1 =>
    cW (fun k1 (st:(List (List Nat)))=>oR a k1 st) (l1.length - 0) 0 l1 >>= fun l3 =>
    some l3
  else
    eD a.bd c >>= fun x4 =>
    eD x4 b >>= fun x5 =>
    bif x5 then
      eD a.cZ c >>= fun x6 =>
      eD x6 b >>= fun x7 =>
      some x7
    else
      eD a.zd.Rows b >>= fun x8 =>
      eD x8 c >>= fun x9 =>
      cv x9 >>= fun r4 =>
      some r4
def qo (a:aB) (b:am) (r1:ab) (r3:(List (List Bool)) × Int × (List (List af))) (r4:Int × (List (List af)) × (List (List (List (List Nat))))) (r5:(List (List Bool)) × Int × (List (List af))) (k1:Nat) (l1:List Bool):Option (List Bool) :=
  m9 (⟨(⟨a.zw,r5.2.1,r5.2.2,a.al⟩:aB),r1.S.P,b,r3.1,r5.1,r4.2.2⟩:aC) ((k1:Nat):Int) >>= fun r8 =>
  cX 1 l1 ([r8]:List Bool) >>= fun l3 =>
  some l3
def qq (a:aB) (b:am) (r1:ab) (r3:(List (List Bool)) × Int × (List (List af))) (r4:Int × (List (List af)) × (List (List (List (List Nat))))) (r5:(List (List Bool)) × Int × (List (List af))) (l2:List Bool) (k2:Nat) (k3:Nat) (l6:List (List (List Nat))):Option (List (List (List Nat))) :=
  l2[k3]? >>= fun x4 =>
  lW (⟨(⟨a.zw,r5.2.1,r5.2.2,a.al⟩:aB),r1.S.P,b,r3.1,r5.1,r4.2.2⟩:aC) ((k2:Nat):Int) ((k3:Nat):Int) x4 >>= fun r11 =>
  cX 24 l6 ([r11]:List (List (List Nat))) >>= fun l8 =>
  some l8
def qp (a:aB) (b:am) (r1:ab) (r3:(List (List Bool)) × Int × (List (List af))) (r4:Int × (List (List af)) × (List (List (List (List Nat))))) (r5:(List (List Bool)) × Int × (List (List af))) (r6:Int) (l2:List Bool) (k2:Nat) (l4:List (List (List (List Nat)))):Option (List (List (List (List Nat)))) :=
  cW (fun k3 (st:(List (List (List Nat))))=>qq a b r1 r3 r4 r5 l2 k2 k3 st) ((max 0 (r6).toNat) - 0) 0 ([]:List (List (List Nat))) >>= fun l7 =>
  cX 24 l4 ([l7]:List (List (List (List Nat)))) >>= fun l9 =>
  some l9
def lV (a:aB) (b:am):Option (bi × Int × (List (List af))) :=
  cq a >>= fun r1 =>
  j0 (⟨a,r1.S.P,b,([]:List (List Bool)),([]:List (List Bool)),([]:List (List (List (List Nat))))⟩:aC) >>= fun r2 =>
  fw (⟨(⟨a.zw,r2.2.1,r2.2.2,a.al⟩:aB),r1.S.P,b,([]:List (List Bool)),([]:List (List Bool)),([]:List (List (List (List Nat))))⟩:aC) r2.1 >>= fun r3 =>
  lX (⟨(⟨a.zw,r3.2.1,r3.2.2,a.al⟩:aB),r1.S.P,b,r3.1,([]:List (List Bool)),([]:List (List (List (List Nat))))⟩:aC) >>= fun r4 =>
  dX (⟨(⟨a.zw,r4.1,r4.2.1,a.al⟩:aB),r1.S.P,b,r3.1,([]:List (List Bool)),r4.2.2⟩:aC) >>= fun r5 =>
  br (⟨(⟨a.zw,r5.2.1,r5.2.2,a.al⟩:aB),r1.S.P,b,r3.1,r5.1,r4.2.2⟩:aC) >>= fun r6 =>
  ot (max 0 (r6).toNat) >>= fun u1 =>
  cW (fun k1 (st:(List Bool))=>qo a b r1 r3 r4 r5 k1 st) ((max 0 (r6).toNat) - 0) 0 ([]:List Bool) >>= fun l2 =>
  cW (fun k2 (st:(List (List (List (List Nat)))))=>qp a b r1 r3 r4 r5 r6 l2 k2 st) ((max 0 (r6).toNat) - 0) 0 ([]:List (List (List (List Nat)))) >>= fun l5 =>
  some ((⟨l5,l2⟩:bi),r5.2.1,r5.2.2)
def lB (a:aB) (b:List (List (List Nat))):Option (bi × Int × (List (List af)) × (List be)) :=
  ik a b >>= fun r1 =>
  lV (⟨a.zw,r1.2.1,r1.2.2.1,r1.2.2.2⟩:aB) r1.1 >>= fun r2 =>
  some (r2.1,r2.2.1,r2.2.2,r1.2.2.2)
def jJ (a:Nat) (x1:List Nat) (k2:Nat):Option (Out Unit Bool) :=
  x1[k2]? >>= fun x2 =>
  bif decide (((x2:Nat):Int) ≥ ((a:Nat):Int)) then
    some (.fin false)
  else
    some (.go ())
def jI (a:Nat) (b:List (List Nat)) (c:Int) (k1:Nat):Option (Out Unit Bool) :=
  b[k1]? >>= fun x1 =>
  bif decide (((x1.length:Nat):Int) > c) then
    some (.fin false)
  else
    oA (fun k2 (st:Unit)=>jJ a x1 k2) (x1.length - 0) 0 () >>= fun r2=>kF r2 (fun x=>some (.fin x)) fun _ =>
    some (.go ())
def ic (a:Nat) (b:List (List Nat)) (c:Int):Option Bool :=
  oA (fun k1 (st:Unit)=>jI a b c k1) (b.length - 0) 0 () >>= fun r1=>kF r1 (fun x=>some x) fun _ =>
  some true
def nA (a:bf) (x3:List (List Nat)) (k3:Nat):Option (Out Unit Bool) :=
  x3[k3]? >>= fun x5 =>
  eO a.T (1:Int) >>= fun x6 =>
  bif ((x5.length:Nat):Int) != x6 then
    some (.fin false)
  else
    ic a.P x3 x6 >>= fun r4 =>
    bif !r4 then
      some (.fin false)
    else
      some (.go ())
def ny (a:bf) (b:List Int) (x2:List (List (List Nat))) (k2:Nat):Option (Out Unit Bool) :=
  x2[k2]? >>= fun x3 =>
  b[k2]? >>= fun x4 =>
  bif ((x3.length:Nat):Int) != x4 then
    some (.fin false)
  else
    ot (max 0 (x4).toNat) >>= fun u2 =>
    oA (fun k3 (st:Unit)=>nA a x3 k3) ((max 0 (x4).toNat) - 0) 0 () >>= fun r3=>kF r3 (fun x=>some (.fin x)) fun _ =>
    some (.go ())
def nw (a:bf) (b:bi) (c:List Int) (k1:Nat):Option (Out Unit Bool) :=
  b.Rows[k1]? >>= fun x2 =>
  bif ((x2.length:Nat):Int) != a.N then
    some (.fin false)
  else
    oA (fun k2 (st:Unit)=>ny a c x2 k2) ((max 0 (a.N).toNat) - 0) 0 () >>= fun r2=>kF r2 (fun x=>some (.fin x)) fun _ =>
    some (.go ())
def iI (a:bf) (b:bi) (c:List Int):Option Bool :=
  (
    bif ((b.Rows.length:Nat):Int) != a.N then
      some true
    else
      bif ((b.bj.length:Nat):Int) != a.N then
        some true
      else
        some (((c.length:Nat):Int) != a.N)
  ) >>= fun x1 =>
  bif x1 then
    some false
  else
    ot (max 0 (a.N).toNat) >>= fun u1 =>
    oA (fun k1 (st:Unit)=>nw a b c k1) ((max 0 (a.N).toNat) - 0) 0 () >>= fun r1=>kF r1 (fun x=>some x) fun _ =>
    some true
def tP (a:bi) (b:Int) (c:Int) (k1:Nat) (l1:List (List Nat)):Option (List (List Nat)) :=
  a.Rows[k1]? >>= fun x2 =>
  gM b (1:Int) >>= fun x3 =>
  eD x2 x3 >>= fun x4 =>
  eD x4 c >>= fun x5 =>
  cX 24 l1 ([x5]:List (List Nat)) >>= fun l3 =>
  some l3
def sn (a:bi) (b:Int) (c:Int):Option (List (List Nat)) :=
  cW (fun k1 (st:(List (List Nat)))=>tP a b c k1 st) (a.Rows.length - 0) 0 ([]:List (List Nat)) >>= fun l2 =>
  some l2
def ra (a:List Nat) (b:List Nat) (k1:Nat):Option (Out Unit Bool) :=
  a[k1]? >>= fun x1 =>
  b[k1]? >>= fun x2 =>
  bif ((x1:Nat):Int) != ((x2:Nat):Int) then
    some (.fin false)
  else
    some (.go ())
def oM (a:List Nat) (b:List Nat):Option Bool :=
  bif ((a.length:Nat):Int) != ((b.length:Nat):Int) then
    some false
  else
    oA (fun k1 (st:Unit)=>ra a b k1) (a.length - 0) 0 () >>= fun r1=>kF r1 (fun x=>some x) fun _ =>
    some true
def pi (a:List (List Nat)) (b:List (List Nat)) (k1:Nat):Option (Out Unit Bool) :=
  a[k1]? >>= fun x1 =>
  b[k1]? >>= fun x2 =>
  oM x1 x2 >>= fun r2 =>
  bif !r2 then
    some (.fin false)
  else
    some (.go ())
def mC (a:List (List Nat)) (b:List (List Nat)):Option Bool :=
  bif ((a.length:Nat):Int) != ((b.length:Nat):Int) then
    some false
  else
    oA (fun k1 (st:Unit)=>pi a b k1) (a.length - 0) 0 () >>= fun r1=>kF r1 (fun x=>some x) fun _ =>
    some true
def oO (a:List (List Nat)) (b:List (List Nat)):Option Bool :=
  mC a b >>= fun r1 =>
  some r1
def jl (a:aB):Option Int :=
  some a.ai
def lg  : Option Bool :=
  ow >>= fun r1 =>
  lv r1.1 >>= fun r2 =>
  ya r2 (fun r3 =>
    some false)
  (fun r4 =>
    lB r4 r1.2 >>= fun r5 =>
    iI r1.1.S r5.1 ([((1:Nat):Int),((0:Nat):Int),((0:Nat):Int),((0:Nat):Int)]:List Int) >>= fun r6 =>
    bif !r6 then
      some false
    else
      sn r5.1 ((1:Nat):Int) ((0:Nat):Int) >>= fun r7 =>
      oO r7 ([([8,10]:List Nat),([11,17]:List Nat),([14,24]:List Nat),([17,0]:List Nat)]:List (List Nat)) >>= fun r8 =>
      bif r8 then
        r5.1.bj[0]? >>= fun x1 =>
        bif !x1 then
          r5.1.bj[3]? >>= fun x2 =>
          bif !x2 then
            jl (⟨r4.zw,r5.2.1,r5.2.2.1,r5.2.2.2⟩:aB) >>= fun r9 =>
            some (r9 == (7:Int))
          else
            some false
        else
          some false
      else
        some false)
def lN  : Option (List Int) :=
  some ([((5:Nat):Int),((7:Nat):Int),((13:Nat):Int),((17:Nat):Int),((19:Nat):Int),((31:Nat):Int),((61:Nat):Int)]:List Int)
def gp (a:Nat) (r1:(List Int)) (k1:Nat):Option (Out Unit Int) :=
  r1[k1]? >>= fun x1 =>
  some (mJ x1) >>= fun x2 =>
  yP 1 ((x2:Nat):Int) >>= fun x3 =>
  some (xZ x3 1) >>= fun x4 =>
  bif ((a:Nat):Int) == ((x4:Nat):Int) then
    some (.fin x1)
  else
    some (.go ())
def jF (a:Nat):Option Int :=
  lN >>= fun r1 =>
  oA (fun k1 (st:Unit)=>gp a r1 k1) (r1.length - 0) 0 () >>= fun r2=>kF r2 (fun x=>some x) fun _ =>
  some ((0:Nat):Int)
def gN (a:Nat):Option Bool :=
  jF a >>= fun r1 =>
  some (decide (r1 > (0:Int)))
def hZ (a:bf):Option Bool :=
  gN a.P >>= fun r1 =>
  bif r1 then
    bif decide (a.N ≥ (4:Int)) then
      bif decide (a.N≤(13:Int)) then
        some (mJ a.N) >>= fun x1 =>
        bif decide (((x1:Nat):Int) < ((a.P:Nat):Int)) then
          bif decide (a.T ≥ (1:Int)) then
            bif decide (a.T < a.N) then
              lL (3:Int) a.T >>= fun x2 =>
              some (decide (x2 < a.N))
            else
              some false
          else
            some false
        else
          some false
      else
        some false
    else
      some false
  else
    some false
def gj (a:bf) (b:List Int) (k1:Nat):Option (Out Unit Bool) :=
  b[k1]? >>= fun x2 =>
  bif decide (x2 < (1:Int)) then
    some (.fin false)
  else
    bif decide (x2 > a.N) then
      some (.fin false)
    else
      bif decide (((k1:Nat):Int) > (0:Int)) then
        gM ((k1:Nat):Int) (1:Int) >>= fun x3 =>
        eD b x3 >>= fun x4 =>
        bif decide (x2≤x4) then
          some (.fin false)
        else
          some (.go ())
      else
        some (.go ())
def fg (a:bf) (b:List Int):Option Bool :=
  (
    hZ a >>= fun r1 =>
    bif !r1 then
      some true
    else
      some (decide (((b.length:Nat):Int) > a.T))
  ) >>= fun x1 =>
  bif x1 then
    some false
  else
    oA (fun k1 (st:Unit)=>gj a b k1) (b.length - 0) 0 () >>= fun r2=>kF r2 (fun x=>some x) fun _ =>
    some true
def gQ (a:bf) (b:aS):Option Bool :=
  bif decide (b.Round ≥ (0:Int)) then
    bif decide (b.At ≥ (0:Int)) then
      bif decide (b.aV ≥ (0:Int)) then
        bif decide (b.From ≥ (1:Int)) then
          bif decide (b.From≤a.N) then
            bif decide (b.To ≥ (0:Int)) then
              bif decide (b.To≤a.N) then
                bif decide (b.Kind ≥ (1:Int)) then
                  bif decide (b.Kind≤(4:Int)) then
                    bif decide (b.Of ≥ (0:Int)) then
                      bif decide (b.Of≤a.N) then
                        bif b.Kind != (3:Int) then
                          some true
                        else
                          some (decide (b.Of ≥ (1:Int)))
                      else
                        some false
                    else
                      some false
                  else
                    some false
                else
                  some false
              else
                some false
            else
              some false
          else
            some false
        else
          some false
      else
        some false
    else
      some false
  else
    some false
def jG (a:Nat) (b:List Nat) (k1:Nat):Option (Out Unit Bool) :=
  b[k1]? >>= fun x1 =>
  bif decide (((x1:Nat):Int) ≥ ((a:Nat):Int)) then
    some (.fin false)
  else
    some (.go ())
def jo (a:Nat) (b:List Nat):Option Bool :=
  oA (fun k1 (st:Unit)=>jG a b k1) (b.length - 0) 0 () >>= fun r1=>kF r1 (fun x=>some x) fun _ =>
  some true
def gA (a:ab) (k1:Nat):Option (Out Unit Bool) :=
  a.aa[k1]? >>= fun x2 =>
  gQ a.S x2 >>= fun r4 =>
  bif !r4 then
    some (.fin false)
  else
    some (.go ())
def gB (a:ab) (k2:Nat):Option (Out Unit Bool) :=
  a.au[k2]? >>= fun x3 =>
  jo a.S.P x3 >>= fun r6 =>
  bif !r6 then
    some (.fin false)
  else
    some (.go ())
def ct (a:ab):Option Bool :=
  (
    hZ a.S >>= fun r1 =>
    bif !r1 then
      some true
    else
      fg a.S a.ah >>= fun r2 =>
      bif !r2 then
        some true
      else
        some (((a.au.length:Nat):Int) != a.S.N)
  ) >>= fun x1 =>
  bif x1 then
    some false
  else
    oA (fun k1 (st:Unit)=>gA a k1) (a.aa.length - 0) 0 () >>= fun r3=>kF r3 (fun x=>some x) fun _ =>
    oA (fun k2 (st:Unit)=>gB a k2) (a.au.length - 0) 0 () >>= fun r5=>kF r5 (fun x=>some x) fun _ =>
    some true
def jH (a:ab) (b:Int) (k1:Nat):Option (Out Unit Bool) :=
  a.au[k1]? >>= fun x2 =>
  bif decide (((x2.length:Nat):Int) > b) then
    some (.fin false)
  else
    some (.go ())
def jp (a:ab) (b:Int) (c:Int) (d:Int):Option Bool :=
  (
    bif decide (a.S.N > b) then
      some true
    else
      bif decide (((a.aa.length:Nat):Int) > c) then
        some true
      else
        some (decide (((a.au.length:Nat):Int) > b))
  ) >>= fun x1 =>
  bif x1 then
    some false
  else
    oA (fun k1 (st:Unit)=>jH a d k1) (a.au.length - 0) 0 () >>= fun r1=>kF r1 (fun x=>some x) fun _ =>
    ct a >>= fun r2 =>
    some r2
def jX (a:bf):Option Int :=
  eO a.T (1:Int) >>= fun x1 =>
  lL a.T x1 >>= fun x2 =>
  xm x2 (2:Int) >>= fun x3 =>
  some x3
def kp (a:ab) (b:List (List (List Nat))) (k1:Nat) (x6:Int):Option (Out Int (Bool ⊕ Unit)) :=
  b[k1]? >>= fun x7 =>
  bif decide (x6 < ((x7.length:Nat):Int)) then
    eD x7 x6 >>= fun x8 =>
    eO a.S.T (1:Int) >>= fun x9 =>
    bif ((x8.length:Nat):Int) != x9 then
      some (.fin (.inl false))
    else
      ic a.S.P x7 x9 >>= fun r5 =>
      bif !r5 then
        some (.fin (.inl false))
      else
        eO x6 (1:Int) >>= fun x10 =>
        some (.go x10)
  else
    some (.fin (.inr ()))
def ko (a:ab) (b:List (List (List Nat))) (c:Int) (k1:Nat):Option (Out Unit Bool) :=
  (
    b[k1]? >>= fun x3 =>
    bif decide (((x3.length:Nat):Int) > c) then
      some true
    else
      a.au[k1]? >>= fun x4 =>
      jX a.S >>= fun r3 =>
      lL ((x3.length:Nat):Int) r3 >>= fun x5 =>
      some (decide (((x4.length:Nat):Int) < x5))
  ) >>= fun x2 =>
  bif x2 then
    some (.fin false)
  else
    qy (fun (st:Int)=>kp a b k1 st) big ((0:Nat):Int) >>= fun r4=>HU r4 (fun x=>some (.fin x)) fun _ =>
    some (.go ())
def jW (a:ab) (b:List (List (List Nat))) (c:Int) (d:Int) (e:Int):Option Bool :=
  (
    jp a c d ((60:Nat):Int) >>= fun r1 =>
    bif !r1 then
      some true
    else
      some (((b.length:Nat):Int) != a.S.N)
  ) >>= fun x1 =>
  bif x1 then
    some false
  else
    oA (fun k1 (st:Unit)=>ko a b e k1) (b.length - 0) 0 () >>= fun r2=>kF r2 (fun x=>some x) fun _ =>
    some true
def nB (a:List (List (List Nat))) (k1:Nat) (l1:List Int):Option (List Int) :=
  a[k1]? >>= fun x2 =>
  cX 8 l1 ([((x2.length:Nat):Int)]:List Int) >>= fun l3 =>
  some l3
def lQ (a:List (List (List Nat))):Option (List Int) :=
  cW (fun k1 (st:(List Int))=>nB a k1 st) (a.length - 0) 0 ([]:List Int) >>= fun l2 =>
  some l2
def pG (a:cV):Option (bi ⊕ (aB × bi × Bool)) :=
  lv a.W >>= fun r1 =>
  ya r1 (fun r2 =>
    some (.inl (⟨([]:List (List (List (List Nat)))),([]:List Bool)⟩:bi)))
  (fun r3 =>
    lB r3 a.Q >>= fun r4 =>
    lQ a.Q >>= fun r5 =>
    iI a.W.S r4.1 r5 >>= fun r6 =>
    some (.inr ((⟨r3.zw,r4.2.1,r4.2.2.1,r4.2.2.2⟩:aB),r4.1,r6)))
def mT (a:List Nat):Option aA :=
  cX 8 ([]:List Nat) a >>= fun l1 =>
  some (⟨l1,((0:Nat):Int)⟩:aA)
def nX (a:ab) (k1:Nat) (l2:List aA):Option (List aA) :=
  a.au[k1]? >>= fun x2 =>
  mT x2 >>= fun r3 =>
  cX 8 l2 ([r3]:List aA) >>= fun l4 =>
  some l4
def iY (a:ab):Option (Unit ⊕ ay) :=
  ct a >>= fun r1 =>
  bif !r1 then
    some (.inl ())
  else
    oz 24 a.S.N a.S.N ([]:List af) >>= fun l1 =>
    ot (max 0 (a.S.N).toNat) >>= fun u1 =>
    cW (fun k1 (st:(List aA))=>nX a k1 st) ((max 0 (a.S.N).toNat) - 0) 0 ([]:List aA) >>= fun l3 =>
    some (.inr (⟨a,((0:Nat):Int),l1,l3⟩:ay))
def bI (a:ay):Option ab :=
  some a.zw
def im (a:ay) (b:Int):Option Nat :=
  gM b (1:Int) >>= fun x1 =>
  eD a.al x1 >>= fun x2 =>
  some x1.toNat
def jU (a:Int):Option Int :=
  eO a (1:Int) >>= fun x1 =>
  lL a x1 >>= fun x2 =>
  xm x2 (2:Int) >>= fun x3 =>
  some x3
def gO (a:aA):Option Int :=
  gM ((a.nU.length:Nat):Int) a.At >>= fun x1 =>
  some x1
def gP (a:aA) (b:Int):Option ((List Nat) × Int × Int) :=
  (
    bif decide (b < (0:Int)) then
      some true
    else
      gO a >>= fun r1 =>
      some (decide (b > r1))
  ) >>= fun x1 =>
  bif x1 then
    some (([]:List Nat),((10:Nat):Int),a.At)
  else
    eO a.At b >>= fun x2 =>
    qR a.nU a.At x2 >>= fun l1 =>
    cX 8 ([]:List Nat) l1 >>= fun l2 =>
    some (l2,((0:Nat):Int),x2)
def rX (x6:Int) (k1:Nat) (l2:List (List Nat)):Option (List (List Nat)) :=
  oz 8 x6 x6 (0:Nat) >>= fun l4 =>
  l2[k1]? >>= fun x8 =>
  some (l2.set k1 l4) >>= fun l5 =>
  some l5
def kH (a:List Nat) (x1:Int) (k2:Nat) (l12:List (List Nat)) (x19:Int) (x20:Int):Option (Out ((List (List Nat)) × Int × Int) ((List (List Nat)) × Int)) :=
  (
    bif decide (x20≤x1) then
      some (decide (((k2:Nat):Int) > (0:Int)))
    else
      some false
  ) >>= fun x23 =>
  bif x23 then
    l12[k2]? >>= fun x24 =>
    eD l12 x20 >>= fun x25 =>
    eD a x19 >>= fun x26 =>
    eD x24 x20 >>= fun x27 =>
    some (x24.set x20.toNat x26) >>= fun l15 =>
    some (l12.set k2 l15) >>= fun l16 =>
    x25[k2]? >>= fun x28 =>
    eD l16 x20 >>= fun x29 =>
    x29[k2]? >>= fun x30 =>
    some (x29.set k2 x26) >>= fun l17 =>
    some (l16.set x20.toNat l17) >>= fun l18 =>
    eO x19 (1:Int) >>= fun x31 =>
    eO x20 (1:Int) >>= fun x32 =>
    some (.go (l18,x31,x32))
  else
    some (.fin (l12,x19))
def kG (a:List Nat) (b:List Nat) (x1:Int) (k2:Nat) (l6:List (List Nat)) (x9:Int):Option ((List (List Nat)) × Int) :=
  l6[0]? >>= fun x12 =>
  l6[k2]? >>= fun x13 =>
  a[k2]? >>= fun x14 =>
  x12[k2]? >>= fun x15 =>
  some (x12.set k2 x14) >>= fun l8 =>
  some (l6.set 0 l8) >>= fun l9 =>
  x13[0]? >>= fun x16 =>
  l9[k2]? >>= fun x17 =>
  x17[0]? >>= fun x18 =>
  some (x17.set 0 x14) >>= fun l10 =>
  some (l9.set k2 l10) >>= fun l11 =>
  qy (fun (st:(List (List Nat)) × Int × Int)=>kH b x1 k2 st.1 st.2.1 st.2.2) big (l11,x9,((k2:Nat):Int)) >>= fun (l14,x22) =>
  some (l14,x22)
def gi (a:List Nat) (b:List Nat):Option ((List (List Nat)) × Int) :=
  gM ((a.length:Nat):Int) (1:Int) >>= fun x1 =>
  (
    bif decide (x1 < (0:Int)) then
      some true
    else
      eO x1 (1:Int) >>= fun x3 =>
      lL x1 x3 >>= fun x4 =>
      xm x4 (2:Int) >>= fun x5 =>
      some (((b.length:Nat):Int) != x5)
  ) >>= fun x2 =>
  bif x2 then
    some (([]:List (List Nat)),((1:Nat):Int))
  else
    eO x1 (1:Int) >>= fun x6 =>
    oz 24 x6 x6 ([]:List Nat) >>= fun l1 =>
    ot (max 0 (x1+1).toNat) >>= fun u1 =>
    cW (fun k1 (st:(List (List Nat)))=>rX x6 k1 st) ((max 0 (x1+1).toNat) - 0) 0 l1 >>= fun l3 =>
    cW (fun k2 (st:(List (List Nat)) × Int)=>kG a b x1 k2 st.1 st.2) ((max 0 (x1+1).toNat) - 0) 0 (l3,((0:Nat):Int)) >>= fun (l7,x11) =>
    some (l7,((0:Nat):Int))
def dx (a:ay) (b:List (List (List Nat))) (r1:ab) (k1:Nat) (l6:List aA) (l7:List (List (List (List Nat)))) (x2:Int):Option (Out ((List aA) × (List (List (List (List Nat)))) × Int) ((List aA) × (List (List (List (List Nat)))))) :=
  b[k1]? >>= fun x3 =>
  bif decide (x2 < ((x3.length:Nat):Int)) then
    eO ((k1:Nat):Int) (1:Int) >>= fun x4 =>
    im (⟨a.zw,a.ai,a.ap,l6⟩:ay) x4 >>= fun r4 =>
    jU r1.S.T >>= fun r5 =>
    l6[r4]? >>= fun x5 =>
    gP x5 r5 >>= fun r6 =>
    some (l6.set r4 (⟨x5.nU,r6.2.2⟩:aA)) >>= fun l12 =>
    eD x3 x2 >>= fun x6 =>
    gi x6 r6.1 >>= fun r7 =>
    l7[k1]? >>= fun x7 =>
    cX 24 x7 ([r7.1]:List (List (List Nat))) >>= fun l13 =>
    some (l7.set k1 l13) >>= fun l14 =>
    eO x2 (1:Int) >>= fun x8 =>
    some (.go (l12,l14,x8))
  else
    some (.fin (l6,l7))
def dw (a:ay) (b:List (List (List Nat))) (r1:ab) (k1:Nat) (l2:List aA) (l3:List (List (List (List Nat)))):Option ((List aA) × (List (List (List (List Nat))))) :=
  qy (fun (st:(List aA) × (List (List (List (List Nat)))) × Int)=>dx a b r1 k1 st.1 st.2.1 st.2.2) big (l2,l3,((0:Nat):Int)) >>= fun (l10,l11) =>
  some (l10,l11)
def io (a:ay) (b:List (List (List Nat))):Option ((List (List (List (List Nat)))) × (List (List af)) × (List aA)) :=
  bI a >>= fun r1 =>
  oz 24 ((b.length:Nat):Int) ((b.length:Nat):Int) ([]:List (List (List Nat))) >>= fun l1 =>
  cW (fun k1 (st:(List aA) × (List (List (List (List Nat)))))=>dw a b r1 k1 st.1 st.2) (b.length - 0) 0 (a.al,l1) >>= fun (l4,l5) =>
  some (l5,a.ap,l4)
def fE (a:Nat) (x1:Nat) (x2:Nat) (x3:Nat):Option (Out (Nat × Nat × Nat) Nat) :=
  bif decide (((x2:Nat):Int) > (0:Int)) then
    rc x2 2 >>= fun x6 =>
    bif ((x6:Nat):Int) == (1:Int) then
      some (ng x3 x1) >>= fun x7 =>
      rc x7 a >>= fun x8 =>
      some (ng x1 x1) >>= fun x9 =>
      rc x9 a >>= fun x10 =>
      AE x2 2 >>= fun x11 =>
      some (.go (x10,x11,x8))
    else
      some (ng x1 x1) >>= fun x12 =>
      rc x12 a >>= fun x13 =>
      AE x2 2 >>= fun x14 =>
      some (.go (x13,x14,x3))
  else
    some (.fin x3)
def gf (a:Nat) (b:Nat) (c:Nat):Option Nat :=
  qy (fun (st:Nat × Nat × Nat)=>fE a st.1 st.2.1 st.2.2) big (b,c,0) >>= fun x5 =>
  some x5
def ge (a:Nat) (b:Nat) (c:Nat):Option Nat :=
  some (ng b c) >>= fun x1 =>
  rc x1 a >>= fun x2 =>
  some x2
def eK (a:Nat) (b:List Nat) (c:Nat) (x2:Nat) (x3:Int):Option (Out (Nat × Int) Nat) :=
  bif decide (x3 ≥ (0:Int)) then
    gf a x2 c >>= fun r2 =>
    eD b x3 >>= fun x6 =>
    ge a r2 x6 >>= fun r3 =>
    gM x3 (1:Int) >>= fun x7 =>
    some (.go (r3,x7))
  else
    some (.fin x2)
def e7 (a:Nat) (b:List Nat) (c:Nat):Option Nat :=
  gM ((b.length:Nat):Int) (1:Int) >>= fun x1 =>
  qy (fun (st:Nat × Int)=>eK a b c st.1 st.2) big (0,x1) >>= fun x5 =>
  some x5
def kI (a:List (List Nat)) (k1:Nat) (k2:Nat) (l3:List Nat):Option (List Nat) :=
  a[k2]? >>= fun x3 =>
  x3[k1]? >>= fun x4 =>
  cX 8 l3 ([x4]:List Nat) >>= fun l5 =>
  some l5
def iS (a:Nat) (b:List (List Nat)) (c:Nat) (k1:Nat) (l1:List Nat):Option (List Nat) :=
  cW (fun k2 (st:(List Nat))=>kI b k1 k2 st) (b.length - 0) 0 ([]:List Nat) >>= fun l4 =>
  e7 a l4 c >>= fun r3 =>
  cX 8 l1 ([r3]:List Nat) >>= fun l6 =>
  some l6
def fb (a:Nat) (b:List (List Nat)) (c:Nat):Option (List Nat) :=
  cW (fun k1 (st:(List Nat))=>iS a b c k1 st) (b.length - 0) 0 ([]:List Nat) >>= fun l2 =>
  some l2
def kJ (a:ab) (b:Int) (k1:Nat):Option (Out Unit Bool) :=
  a.ah[k1]? >>= fun x1 =>
  bif x1 == b then
    some (.fin true)
  else
    some (.go ())
def fc (a:ab) (b:Int):Option Bool :=
  oA (fun k1 (st:Unit)=>kJ a b k1) (a.ah.length - 0) 0 () >>= fun r1=>kF r1 (fun x=>some x) fun _ =>
  some false
def ia (a:List (List (List Nat))) (b:aS):Option (List Nat) :=
  bif decide (b.Of < (1:Int)) then
    some ([]:List Nat)
  else
    gM b.Of (1:Int) >>= fun x1 =>
    eD a x1 >>= fun x2 =>
    gM b.From (1:Int) >>= fun x3 =>
    eD x2 x3 >>= fun x4 =>
    some x4
def lO (a:List Nat) (b:Int):Option Nat :=
  bif decide (b < (0:Int)) then
    some 0
  else
    bif decide (b ≥ ((a.length:Nat):Int)) then
      some 0
    else
      eD a b >>= fun x1 =>
      some x1
def iH (a:ab) (b:aS) (c:List Nat) (d:List Nat):Option (List Nat) :=
  bif b.Kind == (4:Int) then
    some ([]:List Nat)
  else
    (
      bif decide (b.At < (0:Int)) then
        some true
      else
        some (decide (b.At ≥ ((c.length:Nat):Int)))
    ) >>= fun x1 =>
    bif x1 then
      some c
    else
      cX 8 ([]:List Nat) c >>= fun l1 =>
      rc b.K a.S.P >>= fun x2 =>
      bif b.Kind == (1:Int) then
        eD l1 b.At >>= fun x3 =>
        some (l1.set b.At.toNat x2) >>= fun l2 =>
        some l2
      else
        bif b.Kind == (2:Int) then
          eD l1 b.At >>= fun x4 =>
          ge a.S.P x4 x2 >>= fun r1 =>
          some (l1.set b.At.toNat r1) >>= fun l3 =>
          some l3
        else
          bif b.Kind == (3:Int) then
            fc a b.Of >>= fun r2 =>
            bif !r2 then
              eD l1 b.At >>= fun x5 =>
              lO d b.aV >>= fun r3 =>
              rc r3 a.S.P >>= fun x6 =>
              gf a.S.P x2 x6 >>= fun r4 =>
              ge a.S.P x5 r4 >>= fun r5 =>
              some (l1.set b.At.toNat r5) >>= fun l4 =>
              some l4
            else
              some l1
          else
            some l1
def fK (a:List (List (List Nat))) (k1:Nat) (l1:List (List (List Nat))):Option (List (List (List Nat))) :=
  a[k1]? >>= fun x2 =>
  cX 24 ([]:List (List Nat)) x2 >>= fun l3 =>
  cX 24 l1 ([l3]:List (List (List Nat))) >>= fun l4 =>
  some l4
def fM (a:ab) (b:List (List (List Nat))) (x4:aS) (k3:Nat) (l7:List (List (List Nat))):Option (List (List (List Nat))) :=
  (
    bif ((k3:Nat):Int) != x4.From then
      bif x4.To == (0:Int) then
        some true
      else
        some (x4.To == ((k3:Nat):Int))
    else
      some false
  ) >>= fun x7 =>
  bif x7 then
    gM x4.From (1:Int) >>= fun x8 =>
    eD l7 x8 >>= fun x9 =>
    gM ((k3:Nat):Int) (1:Int) >>= fun x10 =>
    eD x9 x10 >>= fun x11 =>
    ia b x4 >>= fun r5 =>
    iH a x4 x11 r5 >>= fun r6 =>
    some (x9.set x10.toNat r6) >>= fun l9 =>
    some (l7.set x8.toNat l9) >>= fun l10 =>
    some l10
  else
    some l7
def fL (a:ab) (b:Int) (c:List (List (List Nat))) (k2:Nat) (l5:List (List (List Nat))):Option (List (List (List Nat))) :=
  a.aa[k2]? >>= fun x4 =>
  (
    bif x4.Round != b then
      some true
    else
      fc a x4.From >>= fun r3 =>
      some (!r3)
  ) >>= fun x5 =>
  bif x5 then
    some l5
  else
    ot (max 1 (a.S.N+1).toNat) >>= fun u1 =>
    cW (fun k3 (st:(List (List (List Nat))))=>fM a c x4 k3 st) ((max 1 (a.S.N+1).toNat) - 1) 1 l5 >>= fun l8 =>
    some l8
def e6 (a:ab) (b:Int) (c:List (List (List Nat))):Option (List (List (List Nat))) :=
  cW (fun k1 (st:(List (List (List Nat))))=>fK c k1 st) (c.length - 0) 0 ([]:List (List (List Nat))) >>= fun l2 =>
  cW (fun k2 (st:(List (List (List Nat))))=>fL a b c k2 st) (a.aa.length - 0) 0 l2 >>= fun l6 =>
  some l6
def fQ (a:ay) (b:Int) (c:Int) (d:List Nat):Option (List (List af)) :=
  (
    bif c != b then
      some (decide (((d.length:Nat):Int) > (0:Int)))
    else
      some false
  ) >>= fun x1 =>
  bif x1 then
    eD a.ap b >>= fun x2 =>
    eO c (1:Int) >>= fun x3 =>
    cX 40 x2 ([(⟨a.ai,x3,d⟩:af)]:List af) >>= fun l1 =>
    some (a.ap.set b.toNat l1) >>= fun l2 =>
    some l2
  else
    some a.ap
def gt (a:ay) (r1:(List (List (List Nat)))) (k1:Nat) (k2:Nat) (l6:List (List af)) (l7:List (List (List Nat))):Option ((List (List af)) × (List (List (List Nat)))) :=
  r1[k2]? >>= fun x3 =>
  x3[k1]? >>= fun x4 =>
  cX 8 ([]:List Nat) x4 >>= fun l10 =>
  l7[k1]? >>= fun x5 =>
  cX 24 x5 ([l10]:List (List Nat)) >>= fun l11 =>
  some (l7.set k1 l11) >>= fun l12 =>
  fQ (⟨a.zw,a.ai,l6,a.al⟩:ay) ((k1:Nat):Int) ((k2:Nat):Int) l10 >>= fun r4 =>
  some (r4,l12)
def gr (a:ay) (r1:(List (List (List Nat)))) (k1:Nat) (l2:List (List af)) (l3:List (List (List Nat))):Option ((List (List af)) × (List (List (List Nat)))) :=
  cW (fun k2 (st:(List (List af)) × (List (List (List Nat))))=>gt a r1 k1 k2 st.1 st.2) ((max 0 (a.zw.S.N).toNat) - 0) 0 (l2,l3) >>= fun (l8,l9) =>
  some (l8,l9)
def eL (a:ay) (b:List (List (List Nat))):Option ((List (List (List Nat))) × Int × (List (List af))) :=
  e6 a.zw a.ai b >>= fun r1 =>
  oz 24 a.zw.S.N a.zw.S.N ([]:List (List Nat)) >>= fun l1 =>
  ot (max 0 (a.zw.S.N).toNat) >>= fun u1 =>
  cW (fun k1 (st:(List (List af)) × (List (List (List Nat))))=>gr a r1 k1 st.1 st.2) ((max 0 (a.zw.S.N).toNat) - 0) 0 (a.ap,l1) >>= fun (l4,l5) =>
  eO a.ai (1:Int) >>= fun x6 =>
  some (l5,x6,l4)
def dW (a:List Nat) (b:Int) (l2:List Nat) (x1:Int):Option (Out ((List Nat) × Int) (List Nat)) :=
  (
    bif decide (x1 < b) then
      some (decide (x1 < ((a.length:Nat):Int)))
    else
      some false
  ) >>= fun x2 =>
  bif x2 then
    eD a x1 >>= fun x3 =>
    eD l2 x1 >>= fun x4 =>
    some (l2.set x1.toNat x3) >>= fun l5 =>
    eO x1 (1:Int) >>= fun x5 =>
    some (.go (l5,x5))
  else
    some (.fin l2)
def c9 (a:List Nat) (b:Int):Option (List Nat) :=
  oz 8 b b (0:Nat) >>= fun l1 =>
  qy (fun (st:(List Nat) × Int)=>dW a b st.1 st.2) big (l1,((0:Nat):Int)) >>= fun l4 =>
  some l4
def ff (a:List (List (List (List Nat)))) (r1:ab) (k1:Nat) (k2:Nat) (l8:List (List (List Nat))) (x4:Int):Option (Out ((List (List (List Nat))) × Int) (List (List (List Nat)))) :=
  a[k1]? >>= fun x5 =>
  bif decide (x4 < ((x5.length:Nat):Int)) then
    l8[k1]? >>= fun x6 =>
    x6[k2]? >>= fun x7 =>
    eD x5 x4 >>= fun x8 =>
    eO ((k2:Nat):Int) (1:Int) >>= fun x9 =>
    some (mJ x9) >>= fun x10 =>
    fb r1.S.P x8 x10 >>= fun r5 =>
    cX 8 x7 r5 >>= fun l11 =>
    some (x6.set k2 l11) >>= fun l12 =>
    some (l8.set k1 l12) >>= fun l13 =>
    eO x4 (1:Int) >>= fun x11 =>
    some (.go (l13,x11))
  else
    some (.fin l8)
def dP (a:List (List (List (List Nat)))) (r1:ab) (k1:Nat) (k2:Nat) (l6:List (List (List Nat))):Option (List (List (List Nat))) :=
  qy (fun (st:(List (List (List Nat))) × Int)=>ff a r1 k1 k2 st.1 st.2) big (l6,((0:Nat):Int)) >>= fun l10 =>
  some l10
def gC (a:List (List (List (List Nat)))) (r1:ab) (k1:Nat) (l2:List (List (List Nat))):Option (List (List (List Nat))) :=
  oz 24 r1.S.N r1.S.N ([]:List Nat) >>= fun l4 =>
  l2[k1]? >>= fun x2 =>
  some (l2.set k1 l4) >>= fun l5 =>
  cW (fun k2 (st:(List (List (List Nat))))=>dP a r1 k1 k2 st) ((max 0 (r1.S.N).toNat) - 0) 0 l5 >>= fun l7 =>
  some l7
def kn (x17:Int) (r9:(List Nat)) (k6:Nat) (l19:List (List Nat)):Option (List (List Nat)) :=
  lL ((k6:Nat):Int) x17 >>= fun x20 =>
  eO ((k6:Nat):Int) (1:Int) >>= fun x21 =>
  lL x21 x17 >>= fun x22 =>
  qR r9 x20 x22 >>= fun l21 =>
  cX 24 l19 ([l21]:List (List Nat)) >>= fun l22 =>
  some l22
def nv (a:List (List (List (List Nat)))) (r1:ab) (r6:(List (List (List Nat))) × Int × (List (List af))) (k4:Nat) (k5:Nat) (l17:List (List (List (List Nat)))):Option (List (List (List (List Nat)))) :=
  r6.1[k4]? >>= fun x14 =>
  x14[k5]? >>= fun x15 =>
  a[k5]? >>= fun x16 =>
  eO r1.S.T (1:Int) >>= fun x17 =>
  lL ((x16.length:Nat):Int) x17 >>= fun x18 =>
  c9 x15 x18 >>= fun r9 =>
  cW (fun k6 (st:(List (List Nat)))=>kn x17 r9 k6 st) (x16.length - 0) 0 ([]:List (List Nat)) >>= fun l20 =>
  l17[k4]? >>= fun x23 =>
  cX 24 x23 ([l20]:List (List (List Nat))) >>= fun l23 =>
  some (l17.set k4 l23) >>= fun l24 =>
  some l24
def km (a:List (List (List (List Nat)))) (r1:ab) (r6:(List (List (List Nat))) × Int × (List (List af))) (k4:Nat) (l15:List (List (List (List Nat)))):Option (List (List (List (List Nat)))) :=
  cW (fun k5 (st:(List (List (List (List Nat)))))=>nv a r1 r6 k4 k5 st) ((max 0 (r1.S.N).toNat) - 0) 0 l15 >>= fun l18 =>
  some l18
def jV (a:ay) (b:List (List (List (List Nat)))):Option ((List (List (List (List Nat)))) × Int × (List (List af)) × (List aA)) :=
  bI a >>= fun r1 =>
  oz 24 r1.S.N r1.S.N ([]:List (List Nat)) >>= fun l1 =>
  ot (max 0 (r1.S.N).toNat) >>= fun u1 =>
  cW (fun k1 (st:(List (List (List Nat))))=>gC b r1 k1 st) ((max 0 (r1.S.N).toNat) - 0) 0 l1 >>= fun l3 =>
  eL a l3 >>= fun r6 =>
  oz 24 r1.S.N r1.S.N ([]:List (List (List Nat))) >>= fun l14 =>
  cW (fun k4 (st:(List (List (List (List Nat)))))=>km b r1 r6 k4 st) ((max 0 (r1.S.N).toNat) - 0) 0 l14 >>= fun l16 =>
  some (l16,r6.2.1,r6.2.2,a.al)
def ft (a:Nat) (b:List (List (List Nat))) (c:Nat) (k1:Nat) (l3:List Nat) (x2:Int):Option (Out ((List Nat) × Int) (List Nat)) :=
  b[k1]? >>= fun x3 =>
  bif decide (x2 < ((x3.length:Nat):Int)) then
    eD x3 x2 >>= fun x4 =>
    e7 a x4 c >>= fun r3 =>
    cX 8 l3 ([r3]:List Nat) >>= fun l6 =>
    eO x2 (1:Int) >>= fun x5 =>
    some (.go (l6,x5))
  else
    some (.fin l3)
def lP (a:Nat) (b:List (List (List Nat))) (c:Nat) (k1:Nat) (l1:List Nat):Option (List Nat) :=
  qy (fun (st:(List Nat) × Int)=>ft a b c k1 st.1 st.2) big (l1,((0:Nat):Int)) >>= fun l5 =>
  some l5
def gL (a:Nat) (b:List (List (List Nat))) (c:Nat):Option (List Nat) :=
  cW (fun k1 (st:(List Nat))=>lP a b c k1 st) (b.length - 0) 0 ([]:List Nat) >>= fun l2 =>
  some l2
def mG (a:List (List (List (List Nat)))) (r1:ab) (k1:Nat) (k2:Nat) (l4:List (List (List Nat))):Option (List (List (List Nat))) :=
  l4[k1]? >>= fun x3 =>
  a[k1]? >>= fun x4 =>
  eO ((k2:Nat):Int) (1:Int) >>= fun x5 =>
  some (mJ x5) >>= fun x6 =>
  gL r1.S.P x4 x6 >>= fun r4 =>
  cX 24 x3 ([r4]:List (List Nat)) >>= fun l6 =>
  some (l4.set k1 l6) >>= fun l7 =>
  some l7
def mF (a:List (List (List (List Nat)))) (r1:ab) (k1:Nat) (l2:List (List (List Nat))):Option (List (List (List Nat))) :=
  cW (fun k2 (st:(List (List (List Nat))))=>mG a r1 k1 k2 st) ((max 0 (r1.S.N).toNat) - 0) 0 l2 >>= fun l5 =>
  some l5
def ip (l3:List (List (List Nat))) (k3:Nat) (k4:Nat) (l10:List (List (List Nat))):Option (List (List (List Nat))) :=
  l10[k3]? >>= fun x9 =>
  x9[k4]? >>= fun x10 =>
  l3[0]? >>= fun x11 =>
  x11[0]? >>= fun x12 =>
  c9 x10 ((x12.length:Nat):Int) >>= fun r8 =>
  some (x9.set k4 r8) >>= fun l12 =>
  some (l10.set k3 l12) >>= fun l13 =>
  some l13
def mH (r1:ab) (l3:List (List (List Nat))) (k3:Nat) (l8:List (List (List Nat))):Option (List (List (List Nat))) :=
  cW (fun k4 (st:(List (List (List Nat))))=>ip l3 k3 k4 st) ((max 0 (r1.S.N).toNat) - 0) 0 l8 >>= fun l11 =>
  some l11
def jt (a:ay) (b:List (List (List (List Nat)))):Option ((List (List (List Nat))) × Int × (List (List af))) :=
  bI a >>= fun r1 =>
  oz 24 r1.S.N r1.S.N ([]:List (List Nat)) >>= fun l1 =>
  ot (max 0 (r1.S.N).toNat) >>= fun u1 =>
  cW (fun k1 (st:(List (List (List Nat))))=>mF b r1 k1 st) ((max 0 (r1.S.N).toNat) - 0) 0 l1 >>= fun l3 =>
  eL a l3 >>= fun r5 =>
  cW (fun k3 (st:(List (List (List Nat))))=>mH r1 l3 k3 st) ((max 0 (r1.S.N).toNat) - 0) 0 r5.1 >>= fun l9 =>
  some (l9,r5.2.1,r5.2.2)
def eM (a:ab) (b:List (List (List Nat))) (c:Int) (d:List (List Nat)) (k1:Nat) (r2:(List Nat)) (k2:Nat) (l6:List Nat) (x8:Int) (x9:Int):Option (Out ((List Nat) × Int × Int) ((List Nat) × Int)) :=
  b[k2]? >>= fun x12 =>
  bif decide (x9 < ((x12.length:Nat):Int)) then
    (
      bif ((k1:Nat):Int) != c then
        eD r2 x8 >>= fun x14 =>
        d[k1]? >>= fun x15 =>
        eD x15 x8 >>= fun x16 =>
        some (((x14:Nat):Int) != ((x16:Nat):Int))
      else
        some false
    ) >>= fun x13 =>
    bif x13 then
      lL ((k2:Nat):Int) a.S.N >>= fun x17 =>
      eO x17 ((k1:Nat):Int) >>= fun x18 =>
      eD l6 x18 >>= fun x19 =>
      some (l6.set x18.toNat 1) >>= fun l9 =>
      eO x8 (1:Int) >>= fun x20 =>
      eO x9 (1:Int) >>= fun x21 =>
      some (.go (l9,x20,x21))
    else
      eO x8 (1:Int) >>= fun x22 =>
      eO x9 (1:Int) >>= fun x23 =>
      some (.go (l6,x22,x23))
  else
    some (.fin (l6,x8))
def fR (a:ab) (b:List (List (List Nat))) (c:Int) (d:List (List Nat)) (k1:Nat) (r2:(List Nat)) (k2:Nat) (l4:List Nat) (x5:Int):Option ((List Nat) × Int) :=
  qy (fun (st:(List Nat) × Int × Int)=>eM a b c d k1 r2 k2 st.1 st.2.1 st.2.2) big (l4,x5,((0:Nat):Int)) >>= fun (l8,x11) =>
  some (l8,x11)
def jK (a:ab) (b:List (List (List Nat))) (c:Int) (d:List (List Nat)) (k1:Nat) (l2:List Nat):Option (List Nat) :=
  eO ((k1:Nat):Int) (1:Int) >>= fun x3 =>
  some (mJ x3) >>= fun x4 =>
  gL a.S.P b x4 >>= fun r2 =>
  cW (fun k2 (st:(List Nat) × Int)=>fR a b c d k1 r2 k2 st.1 st.2) ((max 0 (a.S.N).toNat) - 0) 0 (l2,((0:Nat):Int)) >>= fun (l5,x7) =>
  some l5
def ie (a:ab) (b:List (List (List Nat))) (c:Int) (d:List (List Nat)):Option (List Nat) :=
  lL a.S.N a.S.N >>= fun x1 =>
  oz 8 x1 x1 (0:Nat) >>= fun l1 =>
  ot (max 0 (a.S.N).toNat) >>= fun u1 =>
  cW (fun k1 (st:(List Nat))=>jK a b c d k1 st) ((max 0 (a.S.N).toNat) - 0) 0 l1 >>= fun l3 =>
  some l3
def fi (a:ab) (b:Int) (c:List (List Nat)) (k1:Nat) (l2:List (List Nat)):Option (List (List Nat)) :=
  a.aa[k1]? >>= fun x2 =>
  (
    bif x2.Round == b then
      fc a x2.From >>= fun r2 =>
      some r2
    else
      some false
  ) >>= fun x3 =>
  bif x3 then
    (
      bif decide (x2.Of ≥ (1:Int)) then
        gM x2.Of (1:Int) >>= fun x4 =>
        eD c x4 >>= fun x5 =>
        some x5
      else
        some ([]:List Nat)
    ) >>= fun l4 =>
    gM x2.From (1:Int) >>= fun x6 =>
    eD l2 x6 >>= fun x7 =>
    iH a x2 x7 l4 >>= fun r3 =>
    some (l2.set x6.toNat r3) >>= fun l5 =>
    some l5
  else
    some l2
def dV (a:ab) (b:Int) (c:List (List Nat)):Option (List (List Nat)) :=
  cX 24 ([]:List (List Nat)) c >>= fun l1 =>
  cW (fun k1 (st:(List (List Nat)))=>fi a b c k1 st) (a.aa.length - 0) 0 l1 >>= fun l3 =>
  some l3
def dh (a:ay) (k1:Nat) (l5:List Nat) (k2:Nat) (l7:List (List af)):Option (List (List af)) :=
  fQ (⟨a.zw,a.ai,l7,a.al⟩:ay) ((k2:Nat):Int) ((k1:Nat):Int) l5 >>= fun r4 =>
  some r4
def cu (a:ay) (r1:(List (List Nat))) (k1:Nat) (l1:List (List af)) (l2:List (List Nat)):Option ((List (List af)) × (List (List Nat))) :=
  r1[k1]? >>= fun x2 =>
  cX 8 ([]:List Nat) x2 >>= fun l5 =>
  cX 24 l2 ([l5]:List (List Nat)) >>= fun l6 =>
  cW (fun k2 (st:(List (List af)))=>dh a k1 l5 k2 st) ((max 0 (a.zw.S.N).toNat) - 0) 0 l1 >>= fun l8 =>
  some (l8,l6)
def bY (a:ay) (b:List (List Nat)):Option ((List (List Nat)) × Int × (List (List af))) :=
  dV a.zw a.ai b >>= fun r1 =>
  ot (max 0 (a.zw.S.N).toNat) >>= fun u1 =>
  cW (fun k1 (st:(List (List af)) × (List (List Nat)))=>cu a r1 k1 st.1 st.2) ((max 0 (a.zw.S.N).toNat) - 0) 0 (a.ap,([]:List (List Nat))) >>= fun (l3,l4) =>
  eO a.ai (1:Int) >>= fun x4 =>
  some (l4,x4,l3)
def kh (r1:ab) (r3:(List (List (List (List Nat)))) × Int × (List (List af)) × (List aA)) (r4:(List (List (List Nat))) × Int × (List (List af))) (k1:Nat) (l1:List (List Nat)):Option (List (List Nat)) :=
  r3.1[k1]? >>= fun x2 =>
  r4.1[k1]? >>= fun x3 =>
  ie r1 x2 ((k1:Nat):Int) x3 >>= fun r6 =>
  cX 24 l1 ([r6]:List (List Nat)) >>= fun l3 =>
  some l3
def kj (r1:ab) (r9:(List Nat)) (k3:Nat) (l6:List (List Nat)):Option (List (List Nat)) :=
  lL ((k3:Nat):Int) r1.S.N >>= fun x8 =>
  eO ((k3:Nat):Int) (1:Int) >>= fun x9 =>
  lL x9 r1.S.N >>= fun x10 =>
  qR r9 x8 x10 >>= fun l8 =>
  cX 24 l6 ([l8]:List (List Nat)) >>= fun l9 =>
  some l9
def ki (r1:ab) (r7:(List (List Nat)) × Int × (List (List af))) (k2:Nat) (l4:List (List (List Nat))):Option (List (List (List Nat))) :=
  r7.1[k2]? >>= fun x5 =>
  lL r1.S.N r1.S.N >>= fun x6 =>
  c9 x5 x6 >>= fun r9 =>
  cW (fun k3 (st:(List (List Nat)))=>kj r1 r9 k3 st) ((max 0 (r1.S.N).toNat) - 0) 0 ([]:List (List Nat)) >>= fun l7 =>
  cX 24 l4 ([l7]:List (List (List Nat))) >>= fun l10 =>
  some l10
def fe (a:ay) (b:List (List (List Nat))):Option (am × Int × (List (List af)) × (List aA)) :=
  bI a >>= fun r1 =>
  io a b >>= fun r2 =>
  jV (⟨a.zw,a.ai,r2.2.1,r2.2.2⟩:ay) r2.1 >>= fun r3 =>
  jt (⟨a.zw,r3.2.1,r3.2.2.1,r3.2.2.2⟩:ay) r3.1 >>= fun r4 =>
  ot (max 0 (r1.S.N).toNat) >>= fun u1 =>
  cW (fun k1 (st:(List (List Nat)))=>kh r1 r3 r4 k1 st) ((max 0 (r1.S.N).toNat) - 0) 0 ([]:List (List Nat)) >>= fun l2 =>
  bY (⟨a.zw,r4.2.1,r4.2.2,r3.2.2.2⟩:ay) l2 >>= fun r7 =>
  cW (fun k2 (st:(List (List (List Nat))))=>ki r1 r7 k2 st) ((max 0 (r1.S.N).toNat) - 0) 0 ([]:List (List (List Nat))) >>= fun l5 =>
  some ((⟨r2.1,r3.1,l5⟩:am),r7.2.1,r7.2.2,r3.2.2.2)
def jT (a:Nat) (b:List (List Nat)) (c:Nat) (d:Nat):Option Nat :=
  fb a b c >>= fun r1 =>
  e7 a r1 d >>= fun r2 =>
  some r2
def fu (a:iR) (b:Int):Option ((List Nat) × (List Nat)) :=
  c9 a.zl b >>= fun r1 =>
  bif decide (((a.zl.length:Nat):Int) > b) then
    qR a.zl b ((a.zl.length:Nat):Int) >>= fun l1 =>
    some (r1,l1)
  else
    some (r1,([]:List Nat))
def gz (a:Nat) (b:List Nat) (c:Nat) (k1:Nat) (x1:Nat) (x2:Nat):Option (Nat × Nat) :=
  b[k1]? >>= fun x6 =>
  gf a x6 x2 >>= fun r2 =>
  ge a x1 r2 >>= fun r3 =>
  gf a x2 c >>= fun r4 =>
  some (r3,r4)
def cQ (a:Nat) (b:List Nat) (c:Nat):Option Nat :=
  cW (fun k1 (st:Nat × Nat)=>gz a b c k1 st.1 st.2) (b.length - 0) 0 (0,1) >>= fun (x4,x5) =>
  some x4
def cL (a:am) (r1:ab) (k1:Nat) (k2:Nat) (k3:Nat) (l8:List (List Nat)) (x4:Int):Option (Out ((List (List Nat)) × Int) (List (List Nat))) :=
  (
    a.S[k1]? >>= fun x6 =>
    bif decide (x4 < ((x6.length:Nat):Int)) then
      gM ((k2:Nat):Int) (1:Int) >>= fun x7 =>
      eD a.az x7 >>= fun x8 =>
      x8[k1]? >>= fun x9 =>
      gM ((k3:Nat):Int) (1:Int) >>= fun x10 =>
      eD x9 x10 >>= fun x11 =>
      some (((x11:Nat):Int) != (0:Int))
    else
      some false
  ) >>= fun x5 =>
  bif x5 then
    l8[k1]? >>= fun x12 =>
    a.S[k1]? >>= fun x13 =>
    eD x13 x4 >>= fun x14 =>
    some (mJ ((k2:Nat):Int)) >>= fun x15 =>
    some (mJ ((k3:Nat):Int)) >>= fun x16 =>
    jT r1.S.P x14 x15 x16 >>= fun r6 =>
    cX 8 x12 ([r6]:List Nat) >>= fun l11 =>
    some (l8.set k1 l11) >>= fun l12 =>
    eO x4 (1:Int) >>= fun x17 =>
    some (.go (l12,x17))
  else
    some (.fin l8)
def eS (a:am) (r1:ab) (k1:Nat) (k2:Nat) (k3:Nat) (l6:List (List Nat)):Option (List (List Nat)) :=
  qy (fun (st:(List (List Nat)) × Int)=>cL a r1 k1 k2 k3 st.1 st.2) big (l6,((0:Nat):Int)) >>= fun l10 =>
  some l10
def eQ (a:am) (r1:ab) (k1:Nat) (k2:Nat) (l4:List (List Nat)):Option (List (List Nat)) :=
  cW (fun k3 (st:(List (List Nat)))=>eS a r1 k1 k2 k3 st) ((max 1 (r1.S.N+1).toNat) - 1) 1 l4 >>= fun l7 =>
  some l7
def eP (a:am) (r1:ab) (k1:Nat) (l2:List (List Nat)):Option (List (List Nat)) :=
  ot (max 1 (r1.S.N+1).toNat) >>= fun u2 =>
  cW (fun k2 (st:(List (List Nat)))=>eQ a r1 k1 k2 st) ((max 1 (r1.S.N+1).toNat) - 1) 1 l2 >>= fun l5 =>
  some l5
def cM (a:am) (r1:ab) (k4:Nat) (x19:Int) (k5:Nat) (k6:Nat) (k7:Nat) (l27:List (List Nat)) (l28:List Nat) (x25:Int):Option (Out ((List (List Nat)) × (List Nat) × Int) ((List (List Nat)) × (List Nat))) :=
  (
    a.S[k5]? >>= fun x27 =>
    bif decide (x25 < ((x27.length:Nat):Int)) then
      gM ((k6:Nat):Int) (1:Int) >>= fun x28 =>
      eD a.az x28 >>= fun x29 =>
      x29[k5]? >>= fun x30 =>
      gM ((k7:Nat):Int) (1:Int) >>= fun x31 =>
      eD x30 x31 >>= fun x32 =>
      some (((x32:Nat):Int) != (0:Int))
    else
      some false
  ) >>= fun x26 =>
  bif x26 then
    fu (⟨l28⟩:iR) ((1:Nat):Int) >>= fun r13 =>
    r13.1[0]? >>= fun x33 =>
    (
      bif ((k4:Nat):Int) == ((k6:Nat):Int) then
        eD a.Rows x19 >>= fun x35 =>
        x35[k5]? >>= fun x36 =>
        eD x36 x25 >>= fun x37 =>
        some (mJ ((k7:Nat):Int)) >>= fun x38 =>
        cQ r1.S.P x37 x38 >>= fun r14 =>
        bif ((r14:Nat):Int) != ((x33:Nat):Int) then
          some true
        else
          bif ((k4:Nat):Int) == ((k7:Nat):Int) then
            some (mJ ((k6:Nat):Int)) >>= fun x39 =>
            cQ r1.S.P x37 x39 >>= fun r15 =>
            some (((r15:Nat):Int) != ((x33:Nat):Int))
          else
            some false
      else
        bif ((k4:Nat):Int) == ((k7:Nat):Int) then
          eD a.Rows x19 >>= fun x40 =>
          x40[k5]? >>= fun x41 =>
          eD x41 x25 >>= fun x42 =>
          some (mJ ((k6:Nat):Int)) >>= fun x43 =>
          cQ r1.S.P x42 x43 >>= fun r16 =>
          some (((r16:Nat):Int) != ((x33:Nat):Int))
        else
          some false
    ) >>= fun x34 =>
    bif x34 then
      eD l27 x19 >>= fun x44 =>
      x44[k5]? >>= fun x45 =>
      some (x44.set k5 1) >>= fun l33 =>
      some (l27.set x19.toNat l33) >>= fun l34 =>
      eO x25 (1:Int) >>= fun x46 =>
      some (.go (l34,r13.2,x46))
    else
      eO x25 (1:Int) >>= fun x47 =>
      some (.go (l27,r13.2,x47))
  else
    some (.fin (l27,l28))
def eW (a:am) (r1:ab) (k4:Nat) (x19:Int) (k5:Nat) (k6:Nat) (k7:Nat) (l23:List (List Nat)) (l24:List Nat):Option ((List (List Nat)) × (List Nat)) :=
  qy (fun (st:(List (List Nat)) × (List Nat) × Int)=>cM a r1 k4 x19 k5 k6 k7 st.1 st.2.1 st.2.2) big (l23,l24,((0:Nat):Int)) >>= fun (l31,l32) =>
  some (l31,l32)
def eV (a:am) (r1:ab) (k4:Nat) (x19:Int) (k5:Nat) (k6:Nat) (l19:List (List Nat)) (l20:List Nat):Option ((List (List Nat)) × (List Nat)) :=
  cW (fun k7 (st:(List (List Nat)) × (List Nat))=>eW a r1 k4 x19 k5 k6 k7 st.1 st.2) ((max 1 (r1.S.N+1).toNat) - 1) 1 (l19,l20) >>= fun (l25,l26) =>
  some (l25,l26)
def dy (a:am) (r1:ab) (r7:(List (List Nat)) × Int × (List (List af))) (k4:Nat) (x19:Int) (k5:Nat) (l17:List (List Nat)):Option (List (List Nat)) :=
  r7.1[k5]? >>= fun x22 =>
  cW (fun k6 (st:(List (List Nat)) × (List Nat))=>eV a r1 k4 x19 k5 k6 st.1 st.2) ((max 1 (r1.S.N+1).toNat) - 1) 1 (l17,x22) >>= fun (l21,l22) =>
  some l21
def eU (a:am) (r1:ab) (r7:(List (List Nat)) × Int × (List (List af))) (k4:Nat) (l13:List (List Nat)):Option (List (List Nat)) :=
  gM ((k4:Nat):Int) (1:Int) >>= fun x19 =>
  oz 8 r1.S.N r1.S.N (0:Nat) >>= fun l15 =>
  eD l13 x19 >>= fun x20 =>
  some (l13.set x19.toNat l15) >>= fun l16 =>
  cW (fun k5 (st:(List (List Nat)))=>dy a r1 r7 k4 x19 k5 st) ((max 0 (r1.S.N).toNat) - 0) 0 l16 >>= fun l18 =>
  some l18
def kR (r1:ab) (k8:Nat) (l35:List (List Nat)):Option (List (List Nat)) :=
  l35[k8]? >>= fun x49 =>
  c9 x49 r1.S.N >>= fun r19 =>
  some (l35.set k8 r19) >>= fun l37 =>
  some l37
def cE (a:am) (r1:ab) (l36:List (List Nat)) (k9:Nat) (k10:Nat) (l42:List (List Nat)) (x52:Int):Option (Out ((List (List Nat)) × Int) (List (List Nat))) :=
  (
    a.S[k9]? >>= fun x54 =>
    bif decide (x52 < ((x54.length:Nat):Int)) then
      gM ((k10:Nat):Int) (1:Int) >>= fun x55 =>
      eD l36 x55 >>= fun x56 =>
      x56[k9]? >>= fun x57 =>
      some (((x57:Nat):Int) != (0:Int))
    else
      some false
  ) >>= fun x53 =>
  bif x53 then
    l42[k9]? >>= fun x58 =>
    a.S[k9]? >>= fun x59 =>
    eD x59 x52 >>= fun x60 =>
    some (mJ ((k10:Nat):Int)) >>= fun x61 =>
    fb r1.S.P x60 x61 >>= fun r23 =>
    cX 8 x58 r23 >>= fun l45 =>
    some (l42.set k9 l45) >>= fun l46 =>
    eO x52 (1:Int) >>= fun x62 =>
    some (.go (l46,x62))
  else
    some (.fin l42)
def dZ (a:am) (r1:ab) (l36:List (List Nat)) (k9:Nat) (k10:Nat) (l40:List (List Nat)):Option (List (List Nat)) :=
  qy (fun (st:(List (List Nat)) × Int)=>cE a r1 l36 k9 k10 st.1 st.2) big (l40,((0:Nat):Int)) >>= fun l44 =>
  some l44
def dY (a:am) (r1:ab) (l36:List (List Nat)) (k9:Nat) (l38:List (List Nat)):Option (List (List Nat)) :=
  cW (fun k10 (st:(List (List Nat)))=>dZ a r1 l36 k9 k10 st) ((max 1 (r1.S.N+1).toNat) - 1) 1 l38 >>= fun l41 =>
  some l41
def cG (a:am) (r1:ab) (l36:List (List Nat)) (k11:Nat) (k12:Nat) (l56:List (List (List (List Nat)))) (l57:List Nat) (x67:Int):Option (Out ((List (List (List (List Nat)))) × (List Nat) × Int) ((List (List (List (List Nat)))) × (List Nat))) :=
  (
    a.S[k11]? >>= fun x69 =>
    bif decide (x67 < ((x69.length:Nat):Int)) then
      l36[k12]? >>= fun x70 =>
      x70[k11]? >>= fun x71 =>
      some (((x71:Nat):Int) != (0:Int))
    else
      some false
  ) >>= fun x68 =>
  bif x68 then
    l56[k11]? >>= fun x72 =>
    x72[k12]? >>= fun x73 =>
    eO r1.S.T (1:Int) >>= fun x74 =>
    fu (⟨l57⟩:iR) x74 >>= fun r28 =>
    cX 24 x73 ([r28.1]:List (List Nat)) >>= fun l62 =>
    some (x72.set k12 l62) >>= fun l63 =>
    some (l56.set k11 l63) >>= fun l64 =>
    eO x67 (1:Int) >>= fun x75 =>
    some (.go (l64,r28.2,x75))
  else
    some (.fin (l56,l57))
def ef (a:am) (r1:ab) (l36:List (List Nat)) (k11:Nat) (k12:Nat) (l52:List (List (List (List Nat)))) (l53:List Nat):Option ((List (List (List (List Nat)))) × (List Nat)) :=
  qy (fun (st:(List (List (List (List Nat)))) × (List Nat) × Int)=>cG a r1 l36 k11 k12 st.1 st.2.1 st.2.2) big (l52,l53,((0:Nat):Int)) >>= fun (l60,l61) =>
  some (l60,l61)
def ee (a:am) (r1:ab) (l36:List (List Nat)) (r24:(List (List Nat)) × Int × (List (List af))) (k11:Nat) (l48:List (List (List (List Nat)))):Option (List (List (List (List Nat)))) :=
  r24.1[k11]? >>= fun x64 =>
  oz 24 r1.S.N r1.S.N ([]:List (List Nat)) >>= fun l50 =>
  l48[k11]? >>= fun x65 =>
  some (l48.set k11 l50) >>= fun l51 =>
  cW (fun k12 (st:(List (List (List (List Nat)))) × (List Nat))=>ef a r1 l36 k11 k12 st.1 st.2) ((max 0 (r1.S.N).toNat) - 0) 0 (l51,x64) >>= fun (l54,l55) =>
  some l54
def cH (a:am) (r1:ab) (l36:List (List Nat)) (l49:List (List (List (List Nat)))) (k13:Nat) (x77:Int) (k14:Nat) (k15:Nat) (l73:List (List Nat)) (x81:Int):Option (Out ((List (List Nat)) × Int) (List (List Nat))) :=
  (
    l49[k14]? >>= fun x83 =>
    gM ((k15:Nat):Int) (1:Int) >>= fun x84 =>
    eD x83 x84 >>= fun x85 =>
    bif decide (x81 < ((x85.length:Nat):Int)) then
      eD l36 x77 >>= fun x86 =>
      x86[k14]? >>= fun x87 =>
      some (((x87:Nat):Int) == (0:Int))
    else
      some false
  ) >>= fun x82 =>
  bif x82 then
    l49[k14]? >>= fun x88 =>
    gM ((k15:Nat):Int) (1:Int) >>= fun x89 =>
    eD x88 x89 >>= fun x90 =>
    eD x90 x81 >>= fun x91 =>
    some (mJ ((k13:Nat):Int)) >>= fun x92 =>
    cQ r1.S.P x91 x92 >>= fun r33 =>
    eD a.Rows x77 >>= fun x93 =>
    x93[k14]? >>= fun x94 =>
    eD x94 x81 >>= fun x95 =>
    some (mJ ((k15:Nat):Int)) >>= fun x96 =>
    cQ r1.S.P x95 x96 >>= fun r34 =>
    bif ((r33:Nat):Int) != ((r34:Nat):Int) then
      eD l73 x77 >>= fun x97 =>
      x97[k14]? >>= fun x98 =>
      some (x97.set k14 1) >>= fun l76 =>
      some (l73.set x77.toNat l76) >>= fun l77 =>
      eO x81 (1:Int) >>= fun x99 =>
      some (.go (l77,x99))
    else
      eO x81 (1:Int) >>= fun x100 =>
      some (.go (l73,x100))
  else
    some (.fin l73)
def em (a:am) (r1:ab) (l36:List (List Nat)) (l49:List (List (List (List Nat)))) (k13:Nat) (x77:Int) (k14:Nat) (k15:Nat) (l71:List (List Nat)):Option (List (List Nat)) :=
  qy (fun (st:(List (List Nat)) × Int)=>cH a r1 l36 l49 k13 x77 k14 k15 st.1 st.2) big (l71,((0:Nat):Int)) >>= fun l75 =>
  some l75
def dj (a:am) (r1:ab) (l36:List (List Nat)) (l49:List (List (List (List Nat)))) (k13:Nat) (x77:Int) (k14:Nat) (l69:List (List Nat)):Option (List (List Nat)) :=
  cW (fun k15 (st:(List (List Nat)))=>em a r1 l36 l49 k13 x77 k14 k15 st) ((max 1 (r1.S.N+1).toNat) - 1) 1 l69 >>= fun l72 =>
  some l72
def eg (a:am) (r1:ab) (l36:List (List Nat)) (l49:List (List (List (List Nat)))) (k13:Nat) (l65:List (List Nat)):Option (List (List Nat)) :=
  gM ((k13:Nat):Int) (1:Int) >>= fun x77 =>
  oz 8 r1.S.N r1.S.N (0:Nat) >>= fun l67 =>
  eD l65 x77 >>= fun x78 =>
  some (l65.set x77.toNat l67) >>= fun l68 =>
  cW (fun k14 (st:(List (List Nat)))=>dj a r1 l36 l49 k13 x77 k14 st) ((max 0 (r1.S.N).toNat) - 0) 0 l68 >>= fun l70 =>
  some l70
def iB (r1:ab) (l36:List (List Nat)) (r35:(List (List Nat)) × Int × (List (List af))) (k16:Nat) (k17:Nat) (x102:Int):Option Int :=
  l36[k17]? >>= fun x105 =>
  x105[k16]? >>= fun x106 =>
  bif ((x106:Nat):Int) != (0:Int) then
    eO x102 (1:Int) >>= fun x107 =>
    some x107
  else
    r35.1[k17]? >>= fun x108 =>
    c9 x108 r1.S.N >>= fun r38 =>
    r38[k16]? >>= fun x109 =>
    bif ((x109:Nat):Int) != (0:Int) then
      eO x102 (1:Int) >>= fun x110 =>
      some x110
    else
      some x102
def iA (r1:ab) (l36:List (List Nat)) (r35:(List (List Nat)) × Int × (List (List af))) (k16:Nat) (l79:List Bool):Option (List Bool) :=
  cW (fun k17 (st:Int)=>iB r1 l36 r35 k16 k17 st) ((max 0 (r1.S.N).toNat) - 0) 0 ((0:Nat):Int) >>= fun x104 =>
  l79[k16]? >>= fun x111 =>
  some (l79.set k16 (decide (x104 > r1.S.T))) >>= fun l81 =>
  some l81
def dk (a:am) (r1:ab) (l36:List (List Nat)) (l49:List (List (List (List Nat)))) (l80:List Bool) (k18:Nat) (k19:Nat) (l86:List (List Nat)) (x114:Int):Option (Out ((List (List Nat)) × Int) (List (List Nat))) :=
  a.S[k19]? >>= fun x115 =>
  bif decide (x114 < ((x115.length:Nat):Int)) then
    a.Rows[k18]? >>= fun x116 =>
    x116[k19]? >>= fun x117 =>
    eD x117 x114 >>= fun x118 =>
    l36[k18]? >>= fun x119 =>
    x119[k19]? >>= fun x120 =>
    (
      bif ((x120:Nat):Int) != (0:Int) then
        l49[k19]? >>= fun x121 =>
        x121[k18]? >>= fun x122 =>
        eD x122 x114 >>= fun x123 =>
        some x123
      else
        some x118
    ) >>= fun l89 =>
    l80[k19]? >>= fun x124 =>
    bif x124 then
      eO r1.S.T (1:Int) >>= fun x125 =>
      oz 8 x125 x125 (0:Nat) >>= fun l90 =>
      cX 24 l86 ([l90]:List (List Nat)) >>= fun l91 =>
      eO x114 (1:Int) >>= fun x126 =>
      some (.go (l91,x126))
    else
      cX 24 l86 ([l89]:List (List Nat)) >>= fun l92 =>
      eO x114 (1:Int) >>= fun x127 =>
      some (.go (l92,x127))
  else
    some (.fin l86)
def fO (a:am) (r1:ab) (l36:List (List Nat)) (l49:List (List (List (List Nat)))) (l80:List Bool) (k18:Nat) (k19:Nat) (l84:List (List (List (List Nat)))):Option (List (List (List (List Nat)))) :=
  qy (fun (st:(List (List Nat)) × Int)=>dk a r1 l36 l49 l80 k18 k19 st.1 st.2) big (([]:List (List Nat)),((0:Nat):Int)) >>= fun l88 =>
  l84[k18]? >>= fun x128 =>
  cX 24 x128 ([l88]:List (List (List Nat))) >>= fun l93 =>
  some (l84.set k18 l93) >>= fun l94 =>
  some l94
def ep (a:am) (r1:ab) (l36:List (List Nat)) (l49:List (List (List (List Nat)))) (l80:List Bool) (k18:Nat) (l82:List (List (List (List Nat)))):Option (List (List (List (List Nat)))) :=
  cW (fun k19 (st:(List (List (List (List Nat)))))=>fO a r1 l36 l49 l80 k18 k19 st) ((max 0 (r1.S.N).toNat) - 0) 0 l82 >>= fun l85 =>
  some l85
def fS (a:ay) (b:am):Option (bi × Int × (List (List af)) × (List aA)) :=
  bI a >>= fun r1 =>
  oz 24 r1.S.N r1.S.N ([]:List Nat) >>= fun l1 =>
  ot (max 0 (r1.S.N).toNat) >>= fun u1 =>
  cW (fun k1 (st:(List (List Nat)))=>eP b r1 k1 st) ((max 0 (r1.S.N).toNat) - 0) 0 l1 >>= fun l3 =>
  bY a l3 >>= fun r7 =>
  ot (max 1 (r1.S.N+1).toNat) >>= fun u3 =>
  cW (fun k4 (st:(List (List Nat)))=>eU b r1 r7 k4 st) ((max 1 (r1.S.N+1).toNat) - 1) 1 l1 >>= fun l14 =>
  bY (⟨a.zw,r7.2.1,r7.2.2,a.al⟩:ay) l14 >>= fun r17 =>
  cW (fun k8 (st:(List (List Nat)))=>kR r1 k8 st) ((max 0 (r1.S.N).toNat) - 0) 0 r17.1 >>= fun l36 =>
  cW (fun k9 (st:(List (List Nat)))=>dY b r1 l36 k9 st) ((max 0 (r1.S.N).toNat) - 0) 0 l1 >>= fun l39 =>
  bY (⟨a.zw,r17.2.1,r17.2.2,a.al⟩:ay) l39 >>= fun r24 =>
  oz 24 r1.S.N r1.S.N ([]:List (List (List Nat))) >>= fun l47 =>
  cW (fun k11 (st:(List (List (List (List Nat)))))=>ee b r1 l36 r24 k11 st) ((max 0 (r1.S.N).toNat) - 0) 0 l47 >>= fun l49 =>
  cW (fun k13 (st:(List (List Nat)))=>eg b r1 l36 l49 k13 st) ((max 1 (r1.S.N+1).toNat) - 1) 1 l1 >>= fun l66 =>
  bY (⟨a.zw,r24.2.1,r24.2.2,a.al⟩:ay) l66 >>= fun r35 =>
  oz 1 r1.S.N r1.S.N (false:Bool) >>= fun l78 =>
  cW (fun k16 (st:(List Bool))=>iA r1 l36 r35 k16 st) ((max 0 (r1.S.N).toNat) - 0) 0 l78 >>= fun l80 =>
  cW (fun k18 (st:(List (List (List (List Nat)))))=>ep b r1 l36 l49 l80 k18 st) ((max 0 (r1.S.N).toNat) - 0) 0 l47 >>= fun l83 =>
  some ((⟨l83,l80⟩:bi),r35.2.1,r35.2.2,a.al)
def ju (a:ay) (b:List (List (List Nat))):Option (bi × Int × (List (List af)) × (List aA)) :=
  fe a b >>= fun r1 =>
  fS (⟨a.zw,r1.2.1,r1.2.2.1,r1.2.2.2⟩:ay) r1.1 >>= fun r2 =>
  some (r2.1,r2.2.1,r2.2.2.1,r2.2.2.2)
def mE (a:List Nat) (b:List Nat) (k1:Nat):Option (Out Unit Bool) :=
  a[k1]? >>= fun x1 =>
  b[k1]? >>= fun x2 =>
  bif ((x1:Nat):Int) != ((x2:Nat):Int) then
    some (.fin false)
  else
    some (.go ())
def jr (a:List Nat) (b:List Nat):Option Bool :=
  bif ((a.length:Nat):Int) != ((b.length:Nat):Int) then
    some false
  else
    oA (fun k1 (st:Unit)=>mE a b k1) (a.length - 0) 0 () >>= fun r1=>kF r1 (fun x=>some x) fun _ =>
    some true
def mD (a:List (List Nat)) (b:List (List Nat)) (k1:Nat):Option (Out Unit Bool) :=
  a[k1]? >>= fun x1 =>
  b[k1]? >>= fun x2 =>
  jr x1 x2 >>= fun r2 =>
  bif !r2 then
    some (.fin false)
  else
    some (.go ())
def jq (a:List (List Nat)) (b:List (List Nat)):Option Bool :=
  bif ((a.length:Nat):Int) != ((b.length:Nat):Int) then
    some false
  else
    oA (fun k1 (st:Unit)=>mD a b k1) (a.length - 0) 0 () >>= fun r1=>kF r1 (fun x=>some x) fun _ =>
    some true
def nC (a:bi) (b:bi) (k1:Nat):Option (Out Unit Bool) :=
  a.bj[k1]? >>= fun x2 =>
  b.bj[k1]? >>= fun x3 =>
  bif (x2 != x3) then
    some (.fin false)
  else
    some (.go ())
def nE (x4:List (List (List Nat))) (x5:List (List (List Nat))) (k3:Nat):Option (Out Unit Bool) :=
  x4[k3]? >>= fun x6 =>
  x5[k3]? >>= fun x7 =>
  jq x6 x7 >>= fun r4 =>
  bif !r4 then
    some (.fin false)
  else
    some (.go ())
def nD (a:bi) (b:bi) (k2:Nat):Option (Out Unit Bool) :=
  a.Rows[k2]? >>= fun x4 =>
  b.Rows[k2]? >>= fun x5 =>
  bif ((x4.length:Nat):Int) != ((x5.length:Nat):Int) then
    some (.fin false)
  else
    oA (fun k3 (st:Unit)=>nE x4 x5 k3) (x4.length - 0) 0 () >>= fun r3=>kF r3 (fun x=>some (.fin x)) fun _ =>
    some (.go ())
def jY (a:bi) (b:bi):Option Bool :=
  (
    bif ((a.Rows.length:Nat):Int) != ((b.Rows.length:Nat):Int) then
      some true
    else
      some (((a.bj.length:Nat):Int) != ((b.bj.length:Nat):Int))
  ) >>= fun x1 =>
  bif x1 then
    some false
  else
    oA (fun k1 (st:Unit)=>nC a b k1) (a.bj.length - 0) 0 () >>= fun r1=>kF r1 (fun x=>some x) fun _ =>
    oA (fun k2 (st:Unit)=>nD a b k2) (a.Rows.length - 0) 0 () >>= fun r2=>kF r2 (fun x=>some x) fun _ =>
    some true
def dC (a:cV):Option Bool :=
  lg >>= fun r1 =>
  bif !r1 then
    some false
  else
    jW a.W a.Q ((5:Nat):Int) ((8:Nat):Int) ((2:Nat):Int) >>= fun r2 =>
    bif !r2 then
      some true
    else
      lv a.W >>= fun r3 =>
      ya r3 (fun r4 =>
        iY a.W >>= fun r6 =>
        ya r6 (fun r7 =>
          some false)
        (fun r8 =>
          some false))
      (fun r5 =>
        iY a.W >>= fun r9 =>
        ya r9 (fun r10 =>
          some false)
        (fun r11 =>
          ik r5 a.Q >>= fun r12 =>
          lV (⟨r5.zw,r12.2.1,r12.2.2.1,r12.2.2.2⟩:aB) r12.1 >>= fun r13 =>
          fe r11 a.Q >>= fun r14 =>
          fS (⟨r11.zw,r14.2.1,r14.2.2.1,r14.2.2.2⟩:ay) r14.1 >>= fun r15 =>
          jY r13.1 r15.1 >>= fun r16 =>
          bif r16 then
            jl (⟨r5.zw,r13.2.1,r13.2.2,r12.2.2.2⟩:aB) >>= fun r17 =>
            some (r17 == (7:Int))
          else
            some false))
end Pu
