/- Plain functions: what the Go functions compute, over lists and numbers, in Option (none: a run that is not followed). No Go in it. Printed by a program of this claim. -/
import Derived.Test.YthdaobopefbpeaaGreatDoorWd
set_option linter.unusedVariables false
namespace Pu
open Gw
structure aS where
  P:Nat
  N:Int
  T:Int
structure aQ where
  Round:Int
  From:Int
  To:Int
  At:Int
  Kind:Int
  K:Nat
  Of:Int
  bA:Int
structure ae where
  S:aS
  ah:List Int
  aa:List aQ
  aA:List (List Nat)
structure am where
  Round:Int
  From:Int
  Mc:List Nat
structure aD where
  iq:List Nat
  zat:Int
structure aj where
  zw:ae
  af:Int
  au:List (List am)
  ak:List aD
structure bi where
  Rows:List (List (List (List Nat)))
  bd:List Bool
structure bj where
  zn:aj
  zs:aS
  zm:Int
  zd:bi
structure aR where
  S:List (List (List (List Nat)))
  Rows:List (List (List (List Nat)))
  aO:List (List (List Nat))
structure ao where
  zn:aj
  zs:aS
  zq:List (List (List Nat))
  zd:aR
structure aw where
  zn:aj
  zp:Nat
  zd:aR
  aX:List (List Bool)
  bU:List (List Bool)
  db:List (List (List (List Nat)))
structure bW where
  e0:Int
  e1:Int
structure nq where
  zl:List Nat
structure aM where
  zby:Int
  zdealer:Int
  zk:Int
structure aI where
  X:Nat
  Y:Nat
structure lM where
  zp:Nat
  zm:List (List Nat)
  zpivot:List Int
  zdet:Nat
structure oJ where
  zp:Nat
  zf:List Nat
def uG (a:Nat) (k1:Nat):Option (Out Unit Int) :=
  ([5,7,13,17,19,31,61]:List Int)[k1]? >>= fun x1 =>
  Bv 1 x1 >>= fun x2 =>
  some (xD x2 1) >>= fun x3 =>
  bif ((a:Nat):Int) == ((x3:Nat):Int) then
    some (.fin x1)
  else
    some (.go ())
def sA (a:Nat):Option Int :=
  og 7 >>= fun u1 =>
  ox (fun k1 (st:Unit)=>uG a k1) (7 - 0) 0 () >>= fun r1=>kv r1 (fun x=>some x) fun _ =>
  some ((0:Nat):Int)
def n1 (a:Nat):Option Bool :=
  sA a >>= fun r1 =>
  some (r1 != (0:Int))
def ow (a:aS):Option Bool :=
  n1 a.P >>= fun r1 =>
  bif r1 then
    bif decide (a.N ≥ (4:Int)) then
      bif decide (a.N≤(13:Int)) then
        some (rW a.N) >>= fun x1 =>
        bif decide (((x1:Nat):Int) < ((a.P:Nat):Int)) then
          bif decide (a.T ≥ (1:Int)) then
            bif decide (a.T < a.N) then
              na (3:Int) a.T >>= fun x2 =>
              some (decide (x2 < a.N))
            else
              some false
          else
            some false
        else
          some false
      else
        some false
    else
      some false
  else
    some false
def i7 (a:aS) (b:List Int) (k1:Nat):Option (Out Unit Bool) :=
  b[k1]? >>= fun x2 =>
  bif decide (x2 < (1:Int)) then
    some (.fin false)
  else
    bif decide (x2 > a.N) then
      some (.fin false)
    else
      bif decide (((k1:Nat):Int) > (0:Int)) then
        ky ((k1:Nat):Int) (1:Int) >>= fun x3 =>
        gZ b x3 >>= fun x4 =>
        bif decide (x4 ≥ x2) then
          some (.fin false)
        else
          some (.go ())
      else
        some (.go ())
def iv (a:aS) (b:List Int):Option Bool :=
  (
    ow a >>= fun r1 =>
    bif !r1 then
      some true
    else
      some (decide (((b.length:Nat):Int) > a.T))
  ) >>= fun x1 =>
  bif x1 then
    some false
  else
    ox (fun k1 (st:Unit)=>i7 a b k1) (b.length - 0) 0 () >>= fun r2=>kv r2 (fun x=>some x) fun _ =>
    some true
def qY (a:aS) (b:aQ):Option Bool :=
  (
    bif b.Kind == (3:Int) then
      some ((1:Nat):Int)
    else
      some ((0:Nat):Int)
  ) >>= fun x1 =>
  bif decide (b.Round ≥ (0:Int)) then
    bif decide (b.At ≥ (0:Int)) then
      bif decide (b.bA ≥ (0:Int)) then
        bif decide (b.From ≥ (1:Int)) then
          bif decide (b.From≤a.N) then
            bif decide (b.To ≥ (0:Int)) then
              bif decide (b.To≤a.N) then
                bif decide (b.Kind ≥ (1:Int)) then
                  bif decide (b.Kind≤(4:Int)) then
                    bif decide (b.Of ≥ x1) then
                      some (decide (b.Of≤a.N))
                    else
                      some false
                  else
                    some false
                else
                  some false
              else
                some false
            else
              some false
          else
            some false
        else
          some false
      else
        some false
    else
      some false
  else
    some false
def jG (a:aQ) (b:ae):Option Bool :=
  qY b.S a >>= fun r1 =>
  some (!r1)
def bK (a:List aQ) (b:ae) (k1:Nat):Option (Out Unit Int) :=
  a[k1]? >>= fun x1 =>
  jG x1 b >>= fun r2 =>
  bif r2 then
    some (.fin ((k1:Nat):Int))
  else
    some (.go ())
def bQ (a:List aQ) (b:ae):Option Int :=
  ox (fun k1 (st:Unit)=>bK a b k1) (a.length - 0) 0 () >>= fun r1=>kv r1 (fun x=>some x) fun _ =>
  some (-1)
def bm (a:List aQ) (b:ae):Option Bool :=
  bQ a b >>= fun r1 =>
  some (decide (r1 ≥ (0:Int)))
def i9 (a:Nat) (b:ae):Option Bool :=
  some (decide (((a:Nat):Int) ≥ ((b.S.P:Nat):Int)))
def cg (a:List Nat) (b:ae) (k1:Nat):Option (Out Unit Int) :=
  a[k1]? >>= fun x1 =>
  i9 x1 b >>= fun r2 =>
  bif r2 then
    some (.fin ((k1:Nat):Int))
  else
    some (.go ())
def cx (a:List Nat) (b:ae):Option Int :=
  ox (fun k1 (st:Unit)=>cg a b k1) (a.length - 0) 0 () >>= fun r1=>kv r1 (fun x=>some x) fun _ =>
  some (-1)
def bF (a:List Nat) (b:ae):Option Bool :=
  cx a b >>= fun r1 =>
  some (decide (r1 ≥ (0:Int)))
def jH (a:List Nat) (b:ae):Option Bool :=
  bF a b >>= fun r1 =>
  some r1
def ce (a:List (List Nat)) (b:ae) (k1:Nat):Option (Out Unit Int) :=
  a[k1]? >>= fun x1 =>
  jH x1 b >>= fun r2 =>
  bif r2 then
    some (.fin ((k1:Nat):Int))
  else
    some (.go ())
def cw (a:List (List Nat)) (b:ae):Option Int :=
  ox (fun k1 (st:Unit)=>ce a b k1) (a.length - 0) 0 () >>= fun r1=>kv r1 (fun x=>some x) fun _ =>
  some (-1)
def bE (a:List (List Nat)) (b:ae):Option Bool :=
  cw a b >>= fun r1 =>
  some (decide (r1 ≥ (0:Int)))
def kK (a:ae):Option Bool :=
  iv a.S a.ah >>= fun r1 =>
  bif !r1 then
    some false
  else
    bif ((a.aA.length:Nat):Int) != a.S.N then
      some false
    else
      bm a.aa a >>= fun r2 =>
      bif r2 then
        some false
      else
        bE a.aA a >>= fun r3 =>
        some (!r3)
def xj (a:List Nat):Option aD :=
  some (⟨a,((0:Nat):Int)⟩:aD)
def sF (a:ae) (k1:Nat) (l2:List aD):Option (List aD) :=
  a.aA[k1]? >>= fun x2 =>
  xj x2 >>= fun r3 =>
  cJ 8 l2 ([r3]:List aD) >>= fun l4 =>
  some l4
def mh (a:ae):Option (Unit ⊕ aj) :=
  kK a >>= fun r1 =>
  bif !r1 then
    some (.inl ())
  else
    oB 24 a.S.N a.S.N ([]:List am) >>= fun l1 =>
    dw (fun k1 (st:(List aD))=>sF a k1 st) (a.aA.length - 0) 0 ([]:List aD) >>= fun l3 =>
    some (.inr (⟨a,((0:Nat):Int),l1,l3⟩:aj))
def bv (a:aj):Option ae :=
  some a.zw
def fG (a:aj) (b:Int):Option Nat :=
  ky b (1:Int) >>= fun x1 =>
  gZ a.ak x1 >>= fun x2 =>
  some x1.toNat
def jk (a:aD):Option Int :=
  ky ((a.iq.length:Nat):Int) a.zat >>= fun x1 =>
  some x1
def kN (a:aD) (b:Int):Option ((List Nat) × Int × Int) :=
  (
    bif decide (b < (0:Int)) then
      some true
    else
      jk a >>= fun r1 =>
      some (decide (b > r1))
  ) >>= fun x1 =>
  bif x1 then
    some (([]:List Nat),((10:Nat):Int),a.zat)
  else
    e7 a.zat b >>= fun x2 =>
    qm a.iq a.zat x2 >>= fun l1 =>
    some (l1,((0:Nat):Int),x2)
def fA (a:bj) (b:Int) (k1:Nat) (l1:List aD) (l2:List (List Nat)):Option ((List aD) × (List (List Nat))) :=
  fG (⟨a.zn.zw,a.zn.af,a.zn.au,l1⟩:aj) b >>= fun r2 =>
  l1[r2]? >>= fun x2 =>
  kN x2 a.zs.T >>= fun r3 =>
  some (l1.set r2 (⟨x2.iq,r3.2.2⟩:aD)) >>= fun l5 =>
  cJ 8 ([]:List Nat) r3.1 >>= fun l6 =>
  cJ 8 l6 ([0]:List Nat) >>= fun l7 =>
  cJ 8 ([0]:List Nat) r3.1 >>= fun l8 =>
  cJ 24 l2 ([l7,l8]:List (List Nat)) >>= fun l9 =>
  some (l5,l9)
def jK (a:bj) (b:Int):Option ((List (List Nat)) × (List aD)) :=
  og (max 0 (a.zm).toNat) >>= fun u1 =>
  dw (fun k1 (st:(List aD) × (List (List Nat)))=>fA a b k1 st.1 st.2) ((max 0 (a.zm).toNat) - 0) 0 (a.zn.ak,([]:List (List Nat))) >>= fun (l3,l4) =>
  some (l4,l3)
def vh (a:List Nat) (k1:Nat) (l2:List (List Nat)):Option (List (List Nat)) :=
  oB 8 ((a.length:Nat):Int) ((a.length:Nat):Int) (0:Nat) >>= fun l4 =>
  l2[k1]? >>= fun x6 =>
  some (l2.set k1 l4) >>= fun l5 =>
  some l5
def vj (a:List Nat) (k2:Nat) (l6:List (List Nat)):Option (List (List Nat)) :=
  a[k2]? >>= fun x8 =>
  l6[0]? >>= fun x9 =>
  l6[k2]? >>= fun x10 =>
  x9[k2]? >>= fun x11 =>
  some (x9.set k2 x8) >>= fun l8 =>
  some (l6.set 0 l8) >>= fun l9 =>
  x10[0]? >>= fun x12 =>
  l9[k2]? >>= fun x13 =>
  x13[0]? >>= fun x14 =>
  some (x13.set 0 x8) >>= fun l10 =>
  some (l9.set k2 l10) >>= fun l11 =>
  some l11
def mW (a:List Nat) (k3:Nat) (l16:List Nat) (l17:List (List Nat)) (x16:Int):Option (Out ((List Nat) × (List (List Nat)) × Int) ((List Nat) × (List (List Nat)))) :=
  bif decide (x16 < ((a.length:Nat):Int)) then
    l17[k3]? >>= fun x17 =>
    gZ l17 x16 >>= fun x18 =>
    l16[0]? >>= fun x19 =>
    gZ x17 x16 >>= fun x20 =>
    some (x17.set x16.toNat x19) >>= fun l22 =>
    some (l17.set k3 l22) >>= fun l23 =>
    x18[k3]? >>= fun x21 =>
    gZ l23 x16 >>= fun x22 =>
    x22[k3]? >>= fun x23 =>
    some (x22.set k3 x19) >>= fun l24 =>
    some (l23.set x16.toNat l24) >>= fun l25 =>
    qm l16 (1:Int) ((l16.length:Nat):Int) >>= fun l26 =>
    e7 x16 (1:Int) >>= fun x24 =>
    some (.go (l26,l25,x24))
  else
    some (.fin (l16,l17))
def mV (a:List Nat) (k3:Nat) (l12:List Nat) (l13:List (List Nat)):Option ((List Nat) × (List (List Nat))) :=
  uK (fun (st:(List Nat) × (List (List Nat)) × Int)=>mW a k3 st.1 st.2.1 st.2.2) big (l12,l13,((k3:Nat):Int)) >>= fun (l20,l21) =>
  some (l20,l21)
def lG (a:List Nat) (b:List Nat):Option ((List (List Nat)) × Int) :=
  (
    bif ((a.length:Nat):Int) == (0:Int) then
      some true
    else
      ky ((a.length:Nat):Int) (1:Int) >>= fun x2 =>
      na ((a.length:Nat):Int) x2 >>= fun x3 =>
      xz x3 (2:Int) >>= fun x4 =>
      some (((b.length:Nat):Int) != x4)
  ) >>= fun x1 =>
  bif x1 then
    some (([]:List (List Nat)),((1:Nat):Int))
  else
    oB 24 ((a.length:Nat):Int) ((a.length:Nat):Int) ([]:List Nat) >>= fun l1 =>
    dw (fun k1 (st:(List (List Nat)))=>vh a k1 st) (l1.length - 0) 0 l1 >>= fun l3 =>
    dw (fun k2 (st:(List (List Nat)))=>vj a k2 st) (a.length - 0) 0 l3 >>= fun l7 =>
    og (max 1 (((a.length:Nat):Int)).toNat) >>= fun u1 =>
    dw (fun k3 (st:(List Nat) × (List (List Nat)))=>mV a k3 st.1 st.2) ((max 1 (((a.length:Nat):Int)).toNat) - 1) 1 (b,l7) >>= fun (l14,l15) =>
    some (l15,((0:Nat):Int))
def eE (a:Int) (b:ao) (x1:List (List Nat)) (k1:Nat) (l1:List aD) (l2:List (List (List (List Nat)))):Option ((List aD) × (List (List (List (List Nat))))) :=
  x1[k1]? >>= fun x3 =>
  e7 a (1:Int) >>= fun x4 =>
  fG (⟨b.zn.zw,b.zn.af,b.zn.au,l1⟩:aj) x4 >>= fun r2 =>
  e7 b.zs.T (1:Int) >>= fun x5 =>
  na b.zs.T x5 >>= fun x6 =>
  xz x6 (2:Int) >>= fun x7 =>
  l1[r2]? >>= fun x8 =>
  kN x8 x7 >>= fun r3 =>
  some (l1.set r2 (⟨x8.iq,r3.2.2⟩:aD)) >>= fun l5 =>
  lG x3 r3.1 >>= fun r4 =>
  gZ l2 a >>= fun x9 =>
  cJ 24 x9 ([r4.1]:List (List (List Nat))) >>= fun l6 =>
  some (l2.set a.toNat l6) >>= fun l7 =>
  some (l5,l7)
def gT (a:Int) (b:ao):Option ((List aD) × aR) :=
  gZ b.zq a >>= fun x1 =>
  dw (fun k1 (st:(List aD) × (List (List (List (List Nat)))))=>eE a b x1 k1 st.1 st.2) (x1.length - 0) 0 (b.zn.ak,b.zd.S) >>= fun (l3,l4) =>
  some (l3,(⟨l4,b.zd.Rows,b.zd.aO⟩:aR))
def bM (a:ao) (k1:Nat) (l1:List aD) (l2:List (List (List (List Nat)))) (l3:List (List (List (List Nat)))) (l4:List (List (List Nat))):Option ((List aD) × (List (List (List (List Nat)))) × (List (List (List (List Nat)))) × (List (List (List Nat)))) :=
  gT ((k1:Nat):Int) (⟨(⟨a.zn.zw,a.zn.af,a.zn.au,l1⟩:aj),a.zs,a.zq,(⟨l2,l3,l4⟩:aR)⟩:ao) >>= fun r2 =>
  some (r2.1,r2.2.S,r2.2.Rows,r2.2.aO)
def dh (a:ao):Option ((List aD) × aR) :=
  og (max 0 (a.zs.N).toNat) >>= fun u1 =>
  dw (fun k1 (st:(List aD) × (List (List (List (List Nat)))) × (List (List (List (List Nat)))) × (List (List (List Nat))))=>bM a k1 st.1 st.2.1 st.2.2.1 st.2.2.2) ((max 0 (a.zs.N).toNat) - 0) 0 (a.zn.ak,a.zd.S,a.zd.Rows,a.zd.aO) >>= fun (l5,l6,l7,l8) =>
  some (l5,(⟨l6,l7,l8⟩:aR))
def iS (a:ao):Option ((List aD) × aR) :=
  dh a >>= fun r1 =>
  some (r1.1,r1.2)
def lQ (a:Nat) (b:Nat):Option (Nat × Nat) :=
  some (vW a 4294967295) >>= fun x1 =>
  um a (32:Int) >>= fun x2 =>
  some (vW b 4294967295) >>= fun x3 =>
  um b (32:Int) >>= fun x4 =>
  some (wg x1 x3) >>= fun x5 =>
  some (wg x2 x3) >>= fun x6 =>
  um x5 (32:Int) >>= fun x7 =>
  some (nA x6 x7) >>= fun x8 =>
  some (vW x8 4294967295) >>= fun x9 =>
  um x8 (32:Int) >>= fun x10 =>
  some (wg x1 x4) >>= fun x11 =>
  some (nA x9 x11) >>= fun x12 =>
  some (wg x2 x4) >>= fun x13 =>
  some (nA x13 x10) >>= fun x14 =>
  um x12 (32:Int) >>= fun x15 =>
  some (nA x14 x15) >>= fun x16 =>
  some (wg a b) >>= fun x17 =>
  some (x16,x17)
def lP (a:Nat):Option Int :=
  bif a == 31 then
    some ((5:Nat):Int)
  else
    bif a == 127 then
      some ((7:Nat):Int)
    else
      bif a == 8191 then
        some ((13:Nat):Int)
      else
        bif a == 131071 then
          some ((17:Nat):Int)
        else
          bif a == 524287 then
            some ((19:Nat):Int)
          else
            bif a == 2147483647 then
              some ((31:Nat):Int)
            else
              bif a == 2305843009213693951 then
                some ((61:Nat):Int)
              else
                bif a == 1 then
                  some ((1:Nat):Int)
                else
                  bif a == 2 then
                    some ((2:Nat):Int)
                  else
                    bif a == 3 then
                      some ((2:Nat):Int)
                    else
                      bif a == 4 then
                        some ((3:Nat):Int)
                      else
                        bif a == 5 then
                          some ((3:Nat):Int)
                        else
                          bif a == 6 then
                            some ((3:Nat):Int)
                          else
                            bif a == 7 then
                              some ((3:Nat):Int)
                            else
                              none
def sB (a:Nat):Option Nat :=
  lP a >>= fun r1 =>
  some (rW r1) >>= fun x1 =>
  some x1
def gV (a:Nat) (r1:Nat) (x1:Nat) (x2:Nat):Option (Out (Nat × Nat) Nat) :=
  (
    bif ((x1:Nat):Int) != (0:Int) then
      some true
    else
      some (decide (((x2:Nat):Int) > ((a:Nat):Int)))
  ) >>= fun x5 =>
  bif x5 then
    some (vW x2 a) >>= fun x6 =>
    um x2 ((r1:Nat):Int) >>= fun x7 =>
    some (xD 64 r1) >>= fun x8 =>
    Bv x1 ((x8:Nat):Int) >>= fun x9 =>
    some (MC x7 x9) >>= fun x10 =>
    um x1 ((r1:Nat):Int) >>= fun x11 =>
    some (nA x10 x6) >>= fun x12 =>
    some (GK x10 x6) >>= fun x13 =>
    some (nA x11 x13) >>= fun x14 =>
    some (.go (x14,x12))
  else
    some (.fin x2)
def m7 (a:Nat) (b:Nat) (c:Nat):Option Nat :=
  sB a >>= fun r1 =>
  uK (fun (st:Nat × Nat)=>gV a r1 st.1 st.2) big (b,c) >>= fun x4 =>
  bif ((x4:Nat):Int) == ((a:Nat):Int) then
    some 0
  else
    some x4
def du (a:Nat) (b:Nat) (c:Nat):Option Nat :=
  lQ b c >>= fun r1 =>
  m7 a r1.1 r1.2 >>= fun r2 =>
  some r2
def jW (a:Nat) (b:Nat) (c:Nat):Option Nat :=
  some (nA b c) >>= fun x1 =>
  m7 a 0 x1 >>= fun r1 =>
  some r1
def mX (a:Nat) (x1:Nat) (x4:List Nat) (k2:Nat) (l4:List Nat):Option (List Nat) :=
  x4[k2]? >>= fun x6 =>
  l4[k2]? >>= fun x7 =>
  du a x6 x1 >>= fun r3 =>
  jW a x7 r3 >>= fun r4 =>
  some (l4.set k2 r4) >>= fun l6 =>
  some l6
def jm (a:Nat) (b:List (List Nat)) (c:Nat) (k1:Nat) (l2:List Nat) (x1:Nat):Option ((List Nat) × Nat) :=
  b[k1]? >>= fun x4 =>
  dw (fun k2 (st:(List Nat))=>mX a x1 x4 k2 st) (x4.length - 0) 0 l2 >>= fun l5 =>
  du a x1 c >>= fun r5 =>
  some (l5,r5)
def fb (a:Nat) (b:List (List Nat)) (c:Nat):Option (List Nat) :=
  oB 8 ((b.length:Nat):Int) ((b.length:Nat):Int) (0:Nat) >>= fun l1 =>
  dw (fun k1 (st:(List Nat) × Nat)=>jm a b c k1 st.1 st.2) (b.length - 0) 0 (l1,1) >>= fun (l3,x3) =>
  some l3
def gf (a:ao) (k1:Nat) (x2:List (List (List Nat))) (k2:Nat) (l3:List Nat):Option (List Nat) :=
  x2[k2]? >>= fun x4 =>
  some (rW ((k1:Nat):Int)) >>= fun x5 =>
  fb a.zs.P x4 x5 >>= fun r3 =>
  cJ 8 l3 r3 >>= fun l5 =>
  some l5
def f9 (a:Int) (b:ao) (k1:Nat) (l1:List (List (List Nat))):Option (List (List (List Nat))) :=
  gZ b.zd.S a >>= fun x2 =>
  og x2.length >>= fun u2 =>
  dw (fun k2 (st:(List Nat))=>gf b k1 x2 k2 st) (x2.length - 0) 0 ([]:List Nat) >>= fun l4 =>
  gZ l1 a >>= fun x6 =>
  cJ 24 x6 ([l4]:List (List Nat)) >>= fun l6 =>
  some (l1.set a.toNat l6) >>= fun l7 =>
  some l7
def fk (a:Int) (b:ao) (c:List (List (List Nat))):Option (List (List (List Nat))) :=
  og (max 1 (b.zs.N+1).toNat) >>= fun u1 =>
  dw (fun k1 (st:(List (List (List Nat))))=>f9 a b k1 st) ((max 1 (b.zs.N+1).toNat) - 1) 1 c >>= fun l2 =>
  some l2
def cI (a:ao) (k1:Nat) (l1:List (List (List Nat))):Option (List (List (List Nat))) :=
  fk ((k1:Nat):Int) a l1 >>= fun r2 =>
  some r2
def b8 (a:ao) (b:List (List (List Nat))):Option (List (List (List Nat))) :=
  og (max 0 (a.zs.N).toNat) >>= fun u1 =>
  dw (fun k1 (st:(List (List (List Nat))))=>cI a k1 st) ((max 0 (a.zs.N).toNat) - 0) 0 b >>= fun l2 =>
  some l2
def bV (a:List (List Nat)):Option (List (List Nat)) :=
  cJ 24 ([]:List (List Nat)) a >>= fun l1 =>
  some l1
def jb (a:List Int) (b:Int) (k1:Nat):Option (Out Unit Int) :=
  a[k1]? >>= fun x1 =>
  bif b == x1 then
    some (.fin ((k1:Nat):Int))
  else
    some (.go ())
def j7 (a:List Int) (b:Int):Option Int :=
  ox (fun k1 (st:Unit)=>jb a b k1) (a.length - 0) 0 () >>= fun r1=>kv r1 (fun x=>some x) fun _ =>
  some (-1)
def cX (a:List Int) (b:Int):Option Bool :=
  j7 a b >>= fun r1 =>
  some (decide (r1 ≥ (0:Int)))
def kA (a:ae) (b:aQ) (c:Int):Option Bool :=
  bif b.Round == c then
    cX a.ah b.From >>= fun r1 =>
    some r1
  else
    some false
def oq (a:Nat) (b:Nat):Option Nat :=
  m7 a 0 b >>= fun r1 =>
  some r1
def cj (a:List Nat):Option (List Nat) :=
  cJ 8 ([]:List Nat) a >>= fun l1 =>
  some l1
def kC (a:List Nat) (b:Int):Option Nat :=
  bif decide (b < (0:Int)) then
    some 0
  else
    bif decide (b ≥ ((a.length:Nat):Int)) then
      some 0
    else
      gZ a b >>= fun x1 =>
      some x1
def kB (a:ae) (b:aQ) (c:List Nat) (d:List Nat):Option (List Nat) :=
  bif b.Kind == (4:Int) then
    some ([]:List Nat)
  else
    bif decide (b.At ≥ ((c.length:Nat):Int)) then
      some c
    else
      oq a.S.P b.K >>= fun r1 =>
      cj c >>= fun r2 =>
      bif b.Kind == (1:Int) then
        gZ r2 b.At >>= fun x1 =>
        some (r2.set b.At.toNat r1) >>= fun l1 =>
        some l1
      else
        bif b.Kind == (2:Int) then
          gZ r2 b.At >>= fun x2 =>
          jW a.S.P x2 r1 >>= fun r3 =>
          some (r2.set b.At.toNat r3) >>= fun l2 =>
          some l2
        else
          bif b.Kind == (3:Int) then
            cX a.ah b.Of >>= fun r4 =>
            (
              bif !r4 then
                kC d b.bA >>= fun r5 =>
                some r5
              else
                some 0
            ) >>= fun x3 =>
            gZ r2 b.At >>= fun x4 =>
            du a.S.P r1 x3 >>= fun r6 =>
            jW a.S.P x4 r6 >>= fun r7 =>
            some (r2.set b.At.toNat r7) >>= fun l3 =>
            some l3
          else
            some r2
def dC (a:List (List (List Nat))) (k1:Nat) (l2:List (List (List Nat))):Option (List (List (List Nat))) :=
  a[k1]? >>= fun x2 =>
  bV x2 >>= fun r2 =>
  l2[k1]? >>= fun x3 =>
  some (l2.set k1 r2) >>= fun l4 =>
  some l4
def gx (a:ae) (x5:aQ) (l7:List Nat) (x10:Int) (k3:Nat) (l8:List (List (List Nat))):Option (List (List (List Nat))) :=
  (
    e7 ((k3:Nat):Int) (1:Int) >>= fun x14 =>
    bif x14 != x5.From then
      bif x5.To == (0:Int) then
        some true
      else
        some (x5.To == x14)
    else
      some false
  ) >>= fun x13 =>
  bif x13 then
    gZ l8 x10 >>= fun x15 =>
    x15[k3]? >>= fun x16 =>
    kB a x5 x16 l7 >>= fun r6 =>
    some (x15.set k3 r6) >>= fun l10 =>
    some (l8.set x10.toNat l10) >>= fun l11 =>
    some l11
  else
    some l8
def gw (a:ae) (b:Int) (c:List (List (List Nat))) (k2:Nat) (l5:List (List (List Nat))):Option (List (List (List Nat))) :=
  a.aa[k2]? >>= fun x5 =>
  kA a x5 b >>= fun r4 =>
  bif !r4 then
    some l5
  else
    (
      bif x5.Kind == (3:Int) then
        ky x5.Of (1:Int) >>= fun x6 =>
        gZ c x6 >>= fun x7 =>
        ky x5.From (1:Int) >>= fun x8 =>
        gZ x7 x8 >>= fun x9 =>
        some x9
      else
        some ([]:List Nat)
    ) >>= fun l7 =>
    ky x5.From (1:Int) >>= fun x10 =>
    gZ l5 x10 >>= fun x11 =>
    og x11.length >>= fun u1 =>
    dw (fun k3 (st:(List (List (List Nat))))=>gx a x5 l7 x10 k3 st) (x11.length - 0) 0 l5 >>= fun l9 =>
    some l9
def bJ (a:ae) (b:Int) (c:List (List (List Nat))):Option (List (List (List Nat))) :=
  oB 24 ((c.length:Nat):Int) ((c.length:Nat):Int) ([]:List (List Nat)) >>= fun l1 =>
  dw (fun k1 (st:(List (List (List Nat))))=>dC c k1 st) (c.length - 0) 0 l1 >>= fun l3 =>
  dw (fun k2 (st:(List (List (List Nat))))=>gw a b c k2 st) (a.aa.length - 0) 0 l3 >>= fun l6 =>
  some l6
def jo (a:aj) (b:Int) (c:Int) (d:List Nat):Option (List (List am)) :=
  (
    bif b != c then
      some (decide (((d.length:Nat):Int) > (0:Int)))
    else
      some false
  ) >>= fun x1 =>
  bif x1 then
    gZ a.au b >>= fun x2 =>
    e7 c (1:Int) >>= fun x3 =>
    cJ 8 ([]:List Nat) d >>= fun l1 =>
    cJ 40 x2 ([(⟨a.af,x3,l1⟩:am)]:List am) >>= fun l2 =>
    some (a.au.set b.toNat l2) >>= fun l3 =>
    some l3
  else
    some a.au
def gD (a:aj) (r1:(List (List (List Nat)))) (k1:Nat) (k2:Nat) (l6:List (List am)) (l7:List (List (List Nat))):Option ((List (List am)) × (List (List (List Nat)))) :=
  r1[k2]? >>= fun x3 =>
  x3[k1]? >>= fun x4 =>
  cJ 8 ([]:List Nat) x4 >>= fun l10 =>
  l7[k1]? >>= fun x5 =>
  cJ 24 x5 ([l10]:List (List Nat)) >>= fun l11 =>
  some (l7.set k1 l11) >>= fun l12 =>
  jo (⟨a.zw,a.af,l6,a.ak⟩:aj) ((k1:Nat):Int) ((k2:Nat):Int) l10 >>= fun r4 =>
  some (r4,l12)
def gC (a:aj) (r1:(List (List (List Nat)))) (k1:Nat) (l2:List (List am)) (l3:List (List (List Nat))):Option ((List (List am)) × (List (List (List Nat)))) :=
  og (max 0 (a.zw.S.N).toNat) >>= fun u1 =>
  dw (fun k2 (st:(List (List am)) × (List (List (List Nat))))=>gD a r1 k1 k2 st.1 st.2) ((max 0 (a.zw.S.N).toNat) - 0) 0 (l2,l3) >>= fun (l8,l9) =>
  some (l8,l9)
def hQ (a:aj) (b:List (List (List Nat))):Option ((List (List (List Nat))) × Int × (List (List am))) :=
  bJ a.zw a.af b >>= fun r1 =>
  oB 24 a.zw.S.N a.zw.S.N ([]:List (List Nat)) >>= fun l1 =>
  dw (fun k1 (st:(List (List am)) × (List (List (List Nat))))=>gC a r1 k1 st.1 st.2) (l1.length - 0) 0 (a.au,l1) >>= fun (l4,l5) =>
  e7 a.af (1:Int) >>= fun x6 =>
  some (l5,x6,l4)
def dU (a:List Nat) (b:Int):Option (List Nat) :=
  oB 8 b b (0:Nat) >>= fun l1 =>
  some (tP l1 a)
def gn (a:Int) (r2:(List Nat)) (k2:Nat) (l3:List (List Nat)):Option (List (List Nat)) :=
  na ((k2:Nat):Int) a >>= fun x7 =>
  e7 ((k2:Nat):Int) (1:Int) >>= fun x8 =>
  na x8 a >>= fun x9 =>
  qm r2 x7 x9 >>= fun l5 =>
  cJ 24 l3 ([l5]:List (List Nat)) >>= fun l6 =>
  some l6
def gm (a:Int) (b:ao) (c:List (List (List Nat))) (d:Int) (k1:Nat) (l1:List (List (List (List Nat)))):Option (List (List (List (List Nat)))) :=
  b.zq[k1]? >>= fun x2 =>
  gZ c a >>= fun x3 =>
  x3[k1]? >>= fun x4 =>
  na ((x2.length:Nat):Int) d >>= fun x5 =>
  dU x4 x5 >>= fun r2 =>
  dw (fun k2 (st:(List (List Nat)))=>gn d r2 k2 st) (x2.length - 0) 0 ([]:List (List Nat)) >>= fun l4 =>
  gZ l1 a >>= fun x10 =>
  cJ 24 x10 ([l4]:List (List (List Nat))) >>= fun l7 =>
  some (l1.set a.toNat l7) >>= fun l8 =>
  some l8
def fo (a:Int) (b:ao) (c:List (List (List Nat))) (d:Int):Option aR :=
  dw (fun k1 (st:(List (List (List (List Nat)))))=>gm a b c d k1 st) (b.zq.length - 0) 0 b.zd.Rows >>= fun l2 =>
  some (⟨b.zd.S,l2,b.zd.aO⟩:aR)
def bD (a:ao) (b:List (List (List Nat))) (c:Int) (k1:Nat) (l1:List (List (List (List Nat)))) (l2:List (List (List (List Nat)))) (l3:List (List (List Nat))):Option ((List (List (List (List Nat)))) × (List (List (List (List Nat)))) × (List (List (List Nat)))) :=
  fo ((k1:Nat):Int) (⟨a.zn,a.zs,a.zq,(⟨l1,l2,l3⟩:aR)⟩:ao) b c >>= fun r2 =>
  some (r2.S,r2.Rows,r2.aO)
def b9 (a:ao) (b:List (List (List Nat))) (c:Int):Option aR :=
  og (max 0 (a.zs.N).toNat) >>= fun u1 =>
  dw (fun k1 (st:(List (List (List (List Nat)))) × (List (List (List (List Nat)))) × (List (List (List Nat))))=>bD a b c k1 st.1 st.2.1 st.2.2) ((max 0 (a.zs.N).toNat) - 0) 0 (a.zd.S,a.zd.Rows,a.zd.aO) >>= fun (l4,l5,l6) =>
  some (⟨l4,l5,l6⟩:aR)
def fU (a:ao):Option (Int × (List (List am)) × aR) :=
  e7 a.zs.T (1:Int) >>= fun x1 =>
  oB 24 a.zs.N a.zs.N ([]:List (List Nat)) >>= fun l1 =>
  b8 a l1 >>= fun r1 =>
  hQ a.zn r1 >>= fun r2 =>
  b9 (⟨(⟨a.zn.zw,r2.2.1,r2.2.2,a.zn.ak⟩:aj),a.zs,a.zq,a.zd⟩:ao) r2.1 x1 >>= fun r3 =>
  some (r2.2.1,r2.2.2,r3)
def mA (a:Nat) (b:List Nat) (c:Nat) (x2:Nat) (x3:Int):Option (Out (Nat × Int) Nat) :=
  bif decide (x3 ≥ (0:Int)) then
    du a x2 c >>= fun r2 =>
    gZ b x3 >>= fun x6 =>
    jW a r2 x6 >>= fun r3 =>
    ky x3 (1:Int) >>= fun x7 =>
    some (.go (r3,x7))
  else
    some (.fin x2)
def iJ (a:Nat) (b:List Nat) (c:Nat):Option Nat :=
  ky ((b.length:Nat):Int) (1:Int) >>= fun x1 =>
  uK (fun (st:Nat × Int)=>mA a b c st.1 st.2) big (0,x1) >>= fun x5 =>
  some x5
def ml (a:ao) (b:Int) (x3:List (List Nat)) (k2:Nat) (l3:List Nat):Option (List Nat) :=
  x3[k2]? >>= fun x5 =>
  some (rW b) >>= fun x6 =>
  iJ a.zs.P x5 x6 >>= fun r3 =>
  cJ 8 l3 ([r3]:List Nat) >>= fun l5 =>
  some l5
def jy (a:ao) (b:Int) (x1:List (List (List Nat))) (k1:Nat) (l1:List Nat):Option (List Nat) :=
  x1[k1]? >>= fun x3 =>
  dw (fun k2 (st:(List Nat))=>ml a b x3 k2 st) (x3.length - 0) 0 l1 >>= fun l4 =>
  some l4
def gp (a:ao) (b:Int) (c:Int):Option (List Nat) :=
  gZ a.zd.Rows b >>= fun x1 =>
  og x1.length >>= fun u1 =>
  dw (fun k1 (st:(List Nat))=>jy a c x1 k1 st) (x1.length - 0) 0 ([]:List Nat) >>= fun l2 =>
  some l2
def kW (a:Int) (b:ao) (k1:Nat) (l1:List (List (List Nat))):Option (List (List (List Nat))) :=
  gZ l1 a >>= fun x2 =>
  gp b a ((k1:Nat):Int) >>= fun r2 =>
  cJ 24 x2 ([r2]:List (List Nat)) >>= fun l3 =>
  some (l1.set a.toNat l3) >>= fun l4 =>
  some l4
def jw (a:Int) (b:ao) (c:List (List (List Nat))):Option (List (List (List Nat))) :=
  og (max 1 (b.zs.N+1).toNat) >>= fun u1 =>
  dw (fun k1 (st:(List (List (List Nat))))=>kW a b k1 st) ((max 1 (b.zs.N+1).toNat) - 1) 1 c >>= fun l2 =>
  some l2
def eG (a:ao) (k1:Nat) (l1:List (List (List Nat))):Option (List (List (List Nat))) :=
  jw ((k1:Nat):Int) a l1 >>= fun r2 =>
  some r2
def cy (a:ao) (b:List (List (List Nat))):Option (List (List (List Nat))) :=
  og (max 0 (a.zs.N).toNat) >>= fun u1 =>
  dw (fun k1 (st:(List (List (List Nat))))=>eG a k1 st) ((max 0 (a.zs.N).toNat) - 0) 0 b >>= fun l2 =>
  some l2
def iy (a:ao):Option ((List (List (List Nat))) × Int × (List (List am))) :=
  oB 24 a.zs.N a.zs.N ([]:List (List Nat)) >>= fun l1 =>
  cy a l1 >>= fun r1 =>
  hQ a.zn r1 >>= fun r2 =>
  some (r2.1,r2.2.1,r2.2.2)
def fq (a:ao) (k1:Nat) (r2:(List Nat)) (r3:(List Nat)) (k2:Nat) (k3:Nat) (l6:List Nat) (x9:Int):Option ((List Nat) × Int) :=
  gZ r3 x9 >>= fun x12 =>
  gZ r2 x9 >>= fun x13 =>
  bif ((x12:Nat):Int) != ((x13:Nat):Int) then
    na ((k2:Nat):Int) a.zs.N >>= fun x14 =>
    e7 x14 ((k1:Nat):Int) >>= fun x15 =>
    gZ l6 x15 >>= fun x16 =>
    some (l6.set x15.toNat 1) >>= fun l8 =>
    e7 x9 (1:Int) >>= fun x17 =>
    some (l8,x17)
  else
    e7 x9 (1:Int) >>= fun x18 =>
    some (l6,x18)
def fp (a:ao) (k1:Nat) (r2:(List Nat)) (r3:(List Nat)) (k2:Nat) (l4:List Nat) (x5:Int):Option ((List Nat) × Int) :=
  a.zq[k2]? >>= fun x8 =>
  dw (fun k3 (st:(List Nat) × Int)=>fq a k1 r2 r3 k2 k3 st.1 st.2) (x8.length - 0) 0 (l4,x5) >>= fun (l7,x11) =>
  some (l7,x11)
def jQ (a:ao) (b:Int) (c:List (List Nat)) (k1:Nat) (l2:List Nat):Option (List Nat) :=
  bif ((k1:Nat):Int) == b then
    some l2
  else
    e7 ((k1:Nat):Int) (1:Int) >>= fun x3 =>
    gp a b x3 >>= fun r2 =>
    c[k1]? >>= fun x4 =>
    dU x4 ((r2.length:Nat):Int) >>= fun r3 =>
    dw (fun k2 (st:(List Nat) × Int)=>fp a k1 r2 r3 k2 st.1 st.2) (a.zq.length - 0) 0 (l2,((0:Nat):Int)) >>= fun (l5,x7) =>
    some l5
def dH (a:ao) (b:Int) (c:List (List Nat)):Option (List Nat) :=
  na a.zs.N a.zs.N >>= fun x1 =>
  oB 8 x1 x1 (0:Nat) >>= fun l1 =>
  og (max 0 (a.zs.N).toNat) >>= fun u1 =>
  dw (fun k1 (st:(List Nat))=>jQ a b c k1 st) ((max 0 (a.zs.N).toNat) - 0) 0 l1 >>= fun l3 =>
  some l3
def jc (a:Int) (b:ao) (c:List (List (List Nat))) (d:List (List Nat)):Option (List (List Nat)) :=
  gZ c a >>= fun x1 =>
  dH b a x1 >>= fun r1 =>
  gZ d a >>= fun x2 =>
  some (d.set a.toNat r1) >>= fun l1 =>
  some l1
def ee (a:ao) (b:List (List (List Nat))) (k1:Nat) (l1:List (List Nat)):Option (List (List Nat)) :=
  jc ((k1:Nat):Int) a b l1 >>= fun r2 =>
  some r2
def cm (a:ao) (b:List (List (List Nat))) (c:List (List Nat)):Option (List (List Nat)) :=
  og (max 0 (a.zs.N).toNat) >>= fun u1 =>
  dw (fun k1 (st:(List (List Nat)))=>ee a b k1 st) ((max 0 (a.zs.N).toNat) - 0) 0 c >>= fun l2 =>
  some l2
def fD (a:ae) (b:Int) (c:List (List Nat)) (k1:Nat) (l1:List (List Nat)):Option (List (List Nat)) :=
  a.aa[k1]? >>= fun x2 =>
  kA a x2 b >>= fun r3 =>
  bif !r3 then
    some l1
  else
    (
      bif x2.Kind == (3:Int) then
        ky x2.Of (1:Int) >>= fun x3 =>
        gZ c x3 >>= fun x4 =>
        some x4
      else
        some ([]:List Nat)
    ) >>= fun l3 =>
    ky x2.From (1:Int) >>= fun x5 =>
    gZ l1 x5 >>= fun x6 =>
    kB a x2 x6 l3 >>= fun r4 =>
    some (l1.set x5.toNat r4) >>= fun l4 =>
    some l4
def a9 (a:ae) (b:Int) (c:List (List Nat)):Option (List (List Nat)) :=
  bV c >>= fun r1 =>
  dw (fun k1 (st:(List (List Nat)))=>fD a b c k1 st) (a.aa.length - 0) 0 r1 >>= fun l2 =>
  some l2
def i6 (a:aj) (k1:Nat) (l7:List (List Nat)) (k2:Nat) (l8:List (List am)):Option (List (List am)) :=
  l7[k1]? >>= fun x5 =>
  jo (⟨a.zw,a.af,l8,a.ak⟩:aj) ((k2:Nat):Int) ((k1:Nat):Int) x5 >>= fun r4 =>
  some r4
def eO (a:aj) (r1:(List (List Nat))) (k1:Nat) (l2:List (List am)) (l3:List (List Nat)):Option ((List (List am)) × (List (List Nat))) :=
  r1[k1]? >>= fun x2 =>
  cJ 8 ([]:List Nat) x2 >>= fun l6 =>
  l3[k1]? >>= fun x3 =>
  some (l3.set k1 l6) >>= fun l7 =>
  dw (fun k2 (st:(List (List am)))=>i6 a k1 l7 k2 st) (l7.length - 0) 0 l2 >>= fun l9 =>
  some (l9,l7)
def cb (a:aj) (b:List (List Nat)):Option ((List (List Nat)) × Int × (List (List am))) :=
  a9 a.zw a.af b >>= fun r1 =>
  oB 24 a.zw.S.N a.zw.S.N (([]:List Nat):List Nat) >>= fun l1 =>
  dw (fun k1 (st:(List (List am)) × (List (List Nat)))=>eO a r1 k1 st.1 st.2) (l1.length - 0) 0 (a.au,l1) >>= fun (l4,l5) =>
  e7 a.af (1:Int) >>= fun x6 =>
  some (l5,x6,l4)
def kp (a:Int) (b:ao) (r1:(List Nat)) (k1:Nat) (l1:List (List (List Nat))):Option (List (List (List Nat))) :=
  gZ l1 a >>= fun x4 =>
  na ((k1:Nat):Int) b.zs.N >>= fun x5 =>
  e7 ((k1:Nat):Int) (1:Int) >>= fun x6 =>
  na x6 b.zs.N >>= fun x7 =>
  qm r1 x5 x7 >>= fun l3 =>
  cJ 24 x4 ([l3]:List (List Nat)) >>= fun l4 =>
  some (l1.set a.toNat l4) >>= fun l5 =>
  some l5
def fT (a:Int) (b:List (List Nat)) (c:ao):Option aR :=
  gZ b a >>= fun x1 =>
  na c.zs.N c.zs.N >>= fun x2 =>
  dU x1 x2 >>= fun r1 =>
  og (max 0 (c.zs.N).toNat) >>= fun u1 =>
  dw (fun k1 (st:(List (List (List Nat))))=>kp a c r1 k1 st) ((max 0 (c.zs.N).toNat) - 0) 0 c.zd.aO >>= fun l2 =>
  some (⟨c.zd.S,c.zd.Rows,l2⟩:aR)
def bH (a:ao) (b:List (List Nat)) (k1:Nat) (l1:List (List (List (List Nat)))) (l2:List (List (List (List Nat)))) (l3:List (List (List Nat))):Option ((List (List (List (List Nat)))) × (List (List (List (List Nat)))) × (List (List (List Nat)))) :=
  fT ((k1:Nat):Int) b (⟨a.zn,a.zs,a.zq,(⟨l1,l2,l3⟩:aR)⟩:ao) >>= fun r2 =>
  some (r2.S,r2.Rows,r2.aO)
def cq (a:ao) (b:List (List Nat)):Option aR :=
  og (max 0 (a.zs.N).toNat) >>= fun u1 =>
  dw (fun k1 (st:(List (List (List (List Nat)))) × (List (List (List (List Nat)))) × (List (List (List Nat))))=>bH a b k1 st.1 st.2.1 st.2.2) ((max 0 (a.zs.N).toNat) - 0) 0 (a.zd.S,a.zd.Rows,a.zd.aO) >>= fun (l4,l5,l6) =>
  some (⟨l4,l5,l6⟩:aR)
def gU (a:ao) (b:List (List (List Nat))):Option (Int × (List (List am)) × aR) :=
  oB 24 a.zs.N a.zs.N (([]:List Nat):List Nat) >>= fun l1 =>
  cm a b l1 >>= fun r1 =>
  cb a.zn r1 >>= fun r2 =>
  cq (⟨(⟨a.zn.zw,r2.2.1,r2.2.2,a.zn.ak⟩:aj),a.zs,a.zq,a.zd⟩:ao) r2.1 >>= fun r3 =>
  some (r2.2.1,r2.2.2,r3)
def jP (a:aj) (b:List (List (List Nat))):Option (aR × Int × (List (List am)) × (List aD)) :=
  bv a >>= fun r1 =>
  oB 24 r1.S.N r1.S.N ([]:List (List (List Nat))) >>= fun l1 =>
  oB 24 r1.S.N r1.S.N ([]:List (List Nat)) >>= fun l2 =>
  iS (⟨a,r1.S,b,(⟨l1,l1,l2⟩:aR)⟩:ao) >>= fun r2 =>
  fU (⟨(⟨a.zw,a.af,a.au,r2.1⟩:aj),r1.S,b,r2.2⟩:ao) >>= fun r3 =>
  iy (⟨(⟨a.zw,r3.1,r3.2.1,r2.1⟩:aj),r1.S,b,r3.2.2⟩:ao) >>= fun r4 =>
  gU (⟨(⟨a.zw,r4.2.1,r4.2.2,r2.1⟩:aj),r1.S,b,r3.2.2⟩:ao) r4.1 >>= fun r5 =>
  some (r5.2.2,r5.1,r5.2.1,r2.1)
def bo (a:aw):Option Int :=
  some ((a.zd.Rows.length:Nat):Int)
def mR (k1:Nat) (x3:List Nat) (k2:Nat) (l3:List bW):Option (List bW) :=
  x3[k2]? >>= fun x5 =>
  bif ((x5:Nat):Int) != (0:Int) then
    cJ 16 l3 ([(⟨((k1:Nat):Int),((k2:Nat):Int)⟩:bW)]:List bW) >>= fun l5 =>
    some l5
  else
    some l3
def j8 (a:aw) (b:Int) (k1:Nat) (l1:List bW):Option (List bW) :=
  a.zd.aO[k1]? >>= fun x2 =>
  gZ x2 b >>= fun x3 =>
  dw (fun k2 (st:(List bW))=>mR k1 x3 k2 st) (x3.length - 0) 0 l1 >>= fun l4 =>
  some l4
def fP (a:aw) (b:Int):Option (List bW) :=
  bo a >>= fun r1 =>
  og (max 0 (r1).toNat) >>= fun u1 =>
  dw (fun k1 (st:(List bW))=>j8 a b k1 st) ((max 0 (r1).toNat) - 0) 0 ([]:List bW) >>= fun l2 =>
  some l2
def rb (a:Int):Option Nat :=
  e7 a (1:Int) >>= fun x1 =>
  some (rW x1) >>= fun x2 =>
  some x2
def mo (a:Nat) (b:List (List Nat)) (c:Nat) (d:Nat):Option Nat :=
  fb a b c >>= fun r1 =>
  iJ a r1 d >>= fun r2 =>
  some r2
def gA (a:aw) (b:Int):Option Int :=
  gZ a.zd.S b >>= fun x1 =>
  some ((x1.length:Nat):Int)
def jv (a:nq) (b:Int):Option ((List Nat) × (List Nat)) :=
  dU a.zl b >>= fun r1 =>
  some (min b ((a.zl.length:Nat):Int)) >>= fun x1 =>
  qm a.zl x1 ((a.zl.length:Nat):Int) >>= fun l1 =>
  some (r1,l1)
def nN (a:aw) (x3:bW) (x4:List (List (List Nat))) (k3:Nat) (l5:List Nat):Option (List Nat) :=
  x4[k3]? >>= fun x6 =>
  rb x3.e0 >>= fun r6 =>
  rb x3.e1 >>= fun r7 =>
  mo a.zp x6 r6 r7 >>= fun r8 =>
  cJ 8 l5 ([r8]:List Nat) >>= fun l7 =>
  some l7
def kS (a:aw) (k1:Nat) (r3:(List bW)) (k2:Nat) (l3:List Nat):Option (List Nat) :=
  r3[k2]? >>= fun x3 =>
  a.zd.S[k1]? >>= fun x4 =>
  dw (fun k3 (st:(List Nat))=>nN a x3 x4 k3 st) (x4.length - 0) 0 l3 >>= fun l6 =>
  some l6
def kR (a:aw) (k1:Nat) (l1:List (List Nat)):Option (List (List Nat)) :=
  fP a ((k1:Nat):Int) >>= fun r3 =>
  dw (fun k2 (st:(List Nat))=>kS a k1 r3 k2 st) (r3.length - 0) 0 ([]:List Nat) >>= fun l4 =>
  cJ 24 l1 ([l4]:List (List Nat)) >>= fun l8 =>
  some l8
def fZ (a:aw) (r9:(List (List Nat)) × Int × (List (List am))) (k4:Nat) (k5:Nat) (l11:List Nat) (l12:List (List Nat)):Option ((List Nat) × (List (List Nat))) :=
  gA (⟨(⟨a.zn.zw,r9.2.1,r9.2.2,a.zn.ak⟩:aj),a.zp,a.zd,a.aX,a.bU,a.db⟩:aw) ((k4:Nat):Int) >>= fun r14 =>
  jv (⟨l11⟩:nq) r14 >>= fun r15 =>
  cJ 24 l12 ([r15.1]:List (List Nat)) >>= fun l15 =>
  some (r15.2,l15)
def nP (a:aw) (r9:(List (List Nat)) × Int × (List (List am))) (k4:Nat) (l9:List (List (List Nat))):Option (List (List (List Nat))) :=
  r9.1[k4]? >>= fun x8 =>
  fP (⟨(⟨a.zn.zw,r9.2.1,r9.2.2,a.zn.ak⟩:aj),a.zp,a.zd,a.aX,a.bU,a.db⟩:aw) ((k4:Nat):Int) >>= fun r12 =>
  dw (fun k5 (st:(List Nat) × (List (List Nat)))=>fZ a r9 k4 k5 st.1 st.2) (r12.length - 0) 0 (x8,([]:List (List Nat))) >>= fun (l13,l14) =>
  cJ 24 l9 ([l14]:List (List (List Nat))) >>= fun l16 =>
  some l16
def kn (a:aw):Option ((List (List (List Nat))) × Int × (List (List am))) :=
  bo a >>= fun r1 =>
  og (max 0 (r1).toNat) >>= fun u1 =>
  dw (fun k1 (st:(List (List Nat)))=>kR a k1 st) ((max 0 (r1).toNat) - 0) 0 ([]:List (List Nat)) >>= fun l2 =>
  cb a.zn l2 >>= fun r9 =>
  bo (⟨(⟨a.zn.zw,r9.2.1,r9.2.2,a.zn.ak⟩:aj),a.zp,a.zd,a.aX,a.bU,a.db⟩:aw) >>= fun r10 =>
  og (max 0 (r10).toNat) >>= fun u2 =>
  dw (fun k4 (st:(List (List (List Nat))))=>nP a r9 k4 st) ((max 0 (r10).toNat) - 0) 0 ([]:List (List (List Nat))) >>= fun l10 =>
  some (l10,r9.2.1,r9.2.2)
def rc (a:bW) (b:Int):Option (List Int) :=
  (
    bif a.e0 == b then
      cJ 8 ([]:List Int) ([a.e1]:List Int) >>= fun l2 =>
      some l2
    else
      some ([]:List Int)
  ) >>= fun l1 =>
  bif a.e1 == b then
    cJ 8 l1 ([a.e0]:List Int) >>= fun l3 =>
    some l3
  else
    some l1
def lJ (a:aw) (b:Int) (c:Int) (d:Int):Option (List Nat) :=
  gZ a.zd.Rows b >>= fun x1 =>
  gZ x1 c >>= fun x2 =>
  gZ x2 d >>= fun x3 =>
  some x3
def kV (a:aw) (b:Int) (c:Int) (x2:Int) (x3:List Nat) (k3:Nat):Option (Out Unit Bool) :=
  x3[k3]? >>= fun x4 =>
  lJ a b c ((k3:Nat):Int) >>= fun r6 =>
  rb x2 >>= fun r7 =>
  iJ a.zp r6 r7 >>= fun r8 =>
  bif ((r8:Nat):Int) != ((x4:Nat):Int) then
    some (.fin true)
  else
    some (.go ())
def kU (a:aw) (b:Int) (c:Int) (d:List (List Nat)) (k1:Nat) (r3:(List Int)) (k2:Nat):Option (Out Unit Bool) :=
  r3[k2]? >>= fun x2 =>
  d[k1]? >>= fun x3 =>
  ox (fun k3 (st:Unit)=>kV a b c x2 x3 k3) (x3.length - 0) 0 () >>= fun r5=>kv r5 (fun x=>some (.fin x)) fun _ =>
  some (.go ())
def kT (a:aw) (b:Int) (c:Int) (d:List (List Nat)) (r1:(List bW)) (k1:Nat):Option (Out Unit Bool) :=
  r1[k1]? >>= fun x1 =>
  rc x1 b >>= fun r3 =>
  ox (fun k2 (st:Unit)=>kU a b c d k1 r3 k2) (r3.length - 0) 0 () >>= fun r4=>kv r4 (fun x=>some (.fin x)) fun _ =>
  some (.go ())
def ko (a:aw) (b:Int) (c:Int) (d:List (List Nat)):Option Bool :=
  fP a c >>= fun r1 =>
  ox (fun k1 (st:Unit)=>kT a b c d r1 k1) (r1.length - 0) 0 () >>= fun r2=>kv r2 (fun x=>some x) fun _ =>
  some false
def ip (a:Int) (b:Int) (c:aw) (d:List (List (List Nat))):Option Bool :=
  gZ d b >>= fun x1 =>
  ko c a b x1 >>= fun r1 =>
  some r1
def lL (a:aw) (b:List (List (List Nat))) (k1:Nat) (k2:Nat) (l3:List Nat):Option (List Nat) :=
  ip ((k1:Nat):Int) ((k2:Nat):Int) a b >>= fun r4 =>
  bif r4 then
    cJ 8 l3 ([1]:List Nat) >>= fun l5 =>
    some l5
  else
    cJ 8 l3 ([0]:List Nat) >>= fun l6 =>
    some l6
def lK (a:aw) (b:List (List (List Nat))) (r1:Int) (k1:Nat) (l1:List (List Nat)):Option (List (List Nat)) :=
  dw (fun k2 (st:(List Nat))=>lL a b k1 k2 st) ((max 0 (r1).toNat) - 0) 0 ([]:List Nat) >>= fun l4 =>
  cJ 24 l1 ([l4]:List (List Nat)) >>= fun l7 =>
  some l7
def gX (r5:(List (List Nat)) × Int × (List (List am))) (r6:Int) (k3:Nat) (k4:Nat) (l11:List (List Bool)):Option (List (List Bool)) :=
  l11[k3]? >>= fun x5 =>
  r5.1[k4]? >>= fun x6 =>
  dU x6 r6 >>= fun r9 =>
  r9[k3]? >>= fun x7 =>
  cJ 1 x5 ([((x7:Nat):Int) != (0:Int)]:List Bool) >>= fun l13 =>
  some (l11.set k3 l13) >>= fun l14 =>
  some l14
def eU (r5:(List (List Nat)) × Int × (List (List am))) (r6:Int) (k3:Nat) (l9:List (List Bool)):Option (List (List Bool)) :=
  og (max 0 (r6).toNat) >>= fun u2 =>
  dw (fun k4 (st:(List (List Bool)))=>gX r5 r6 k3 k4 st) ((max 0 (r6).toNat) - 0) 0 l9 >>= fun l12 =>
  some l12
def fj (a:aw) (b:List (List (List Nat))):Option ((List (List Bool)) × Int × (List (List am))) :=
  bo a >>= fun r1 =>
  og (max 0 (r1).toNat) >>= fun u1 =>
  dw (fun k1 (st:(List (List Nat)))=>lK a b r1 k1 st) ((max 0 (r1).toNat) - 0) 0 ([]:List (List Nat)) >>= fun l2 =>
  cb a.zn l2 >>= fun r5 =>
  bo (⟨(⟨a.zn.zw,r5.2.1,r5.2.2,a.zn.ak⟩:aj),a.zp,a.zd,a.aX,a.bU,a.db⟩:aw) >>= fun r6 =>
  oB 24 r6 r6 ([]:List Bool) >>= fun l8 =>
  dw (fun k3 (st:(List (List Bool)))=>eU r5 r6 k3 st) (l8.length - 0) 0 l8 >>= fun l10 =>
  some (l10,r5.2.1,r5.2.2)
def pE (a:aw) (k2:Nat) (x5:List (List (List Nat))) (k3:Nat) (l5:List Nat):Option (List Nat) :=
  x5[k3]? >>= fun x7 =>
  rb ((k2:Nat):Int) >>= fun r5 =>
  fb a.zp x7 r5 >>= fun r6 =>
  cJ 8 l5 r6 >>= fun l7 =>
  some l7
def mK (a:aw) (k1:Nat) (x2:List Bool) (k2:Nat) (l3:List Nat):Option (List Nat) :=
  x2[k2]? >>= fun x4 =>
  bif x4 then
    a.zd.S[k1]? >>= fun x5 =>
    dw (fun k3 (st:(List Nat))=>pE a k2 x5 k3 st) (x5.length - 0) 0 l3 >>= fun l6 =>
    some l6
  else
    some l3
def mJ (a:aw) (k1:Nat) (l1:List (List Nat)):Option (List (List Nat)) :=
  a.aX[k1]? >>= fun x2 =>
  dw (fun k2 (st:(List Nat))=>mK a k1 x2 k2 st) (x2.length - 0) 0 ([]:List Nat) >>= fun l4 =>
  cJ 24 l1 ([l4]:List (List Nat)) >>= fun l8 =>
  some l8
def iR (x8:Int) (k5:Nat) (k6:Nat) (l16:List Nat) (l17:List (List (List Nat))):Option ((List Nat) × (List (List (List Nat)))) :=
  l17[k5]? >>= fun x15 =>
  jv (⟨l16⟩:nq) x8 >>= fun r15 =>
  cJ 24 x15 ([r15.1]:List (List Nat)) >>= fun l20 =>
  some (l17.set k5 l20) >>= fun l21 =>
  some (r15.2,l21)
def gu (a:aw) (r7:(List (List Nat)) × Int × (List (List am))) (x8:Int) (l9:List (List (List (List Nat)))) (k4:Nat) (x11:List Bool) (k5:Nat) (l12:List Nat) (l13:List (List (List Nat))):Option ((List Nat) × (List (List (List Nat)))) :=
  x11[k5]? >>= fun x13 =>
  bif x13 then
    gA (⟨(⟨a.zn.zw,r7.2.1,r7.2.2,a.zn.ak⟩:aj),a.zp,a.zd,a.aX,a.bU,l9⟩:aw) ((k4:Nat):Int) >>= fun r13 =>
    og (max 0 (r13).toNat) >>= fun u3 =>
    dw (fun k6 (st:(List Nat) × (List (List (List Nat))))=>iR x8 k5 k6 st.1 st.2) ((max 0 (r13).toNat) - 0) 0 (l12,l13) >>= fun (l18,l19) =>
    some (l18,l19)
  else
    some (l12,l13)
def pF (a:aw) (r7:(List (List Nat)) × Int × (List (List am))) (x8:Int) (k4:Nat) (l9:List (List (List (List Nat)))):Option (List (List (List (List Nat)))) :=
  r7.1[k4]? >>= fun x10 =>
  bo (⟨(⟨a.zn.zw,r7.2.1,r7.2.2,a.zn.ak⟩:aj),a.zp,a.zd,a.aX,a.bU,l9⟩:aw) >>= fun r11 =>
  oB 24 r11 r11 ([]:List (List Nat)) >>= fun l11 =>
  a.aX[k4]? >>= fun x11 =>
  dw (fun k5 (st:(List Nat) × (List (List (List Nat))))=>gu a r7 x8 l9 k4 x11 k5 st.1 st.2) (x11.length - 0) 0 (x10,l11) >>= fun (l14,l15) =>
  cJ 24 l9 ([l15]:List (List (List (List Nat)))) >>= fun l22 =>
  some l22
def mI (a:aw):Option (Int × (List (List am)) × (List (List (List (List Nat))))) :=
  bo a >>= fun r1 =>
  og (max 0 (r1).toNat) >>= fun u1 =>
  dw (fun k1 (st:(List (List Nat)))=>mJ a k1 st) ((max 0 (r1).toNat) - 0) 0 ([]:List (List Nat)) >>= fun l2 =>
  cb a.zn l2 >>= fun r7 =>
  bv (⟨a.zn.zw,r7.2.1,r7.2.2,a.zn.ak⟩:aj) >>= fun r8 =>
  e7 r8.S.T (1:Int) >>= fun x8 =>
  bo (⟨(⟨a.zn.zw,r7.2.1,r7.2.2,a.zn.ak⟩:aj),a.zp,a.zd,a.aX,a.bU,a.db⟩:aw) >>= fun r9 =>
  og (max 0 (r9).toNat) >>= fun u2 =>
  dw (fun k4 (st:(List (List (List (List Nat)))))=>pF a r7 x8 k4 st) ((max 0 (r9).toNat) - 0) 0 a.db >>= fun l10 =>
  some (r7.2.1,r7.2.2,l10)
def jO (a:aw) (b:Int) (c:Int) (k1:Nat) (x4:List (List Nat)) (k2:Nat):Option (Out Unit Bool) :=
  x4[k2]? >>= fun x5 =>
  rb b >>= fun r3 =>
  iJ a.zp x5 r3 >>= fun r4 =>
  lJ a b c ((k2:Nat):Int) >>= fun r5 =>
  rb ((k1:Nat):Int) >>= fun r6 =>
  iJ a.zp r5 r6 >>= fun r7 =>
  bif ((r4:Nat):Int) != ((r7:Nat):Int) then
    some (.fin true)
  else
    some (.go ())
def jN (a:aw) (b:Int) (c:Int) (x3:List (List (List Nat))) (k1:Nat):Option (Out Unit Bool) :=
  x3[k1]? >>= fun x4 =>
  ox (fun k2 (st:Unit)=>jO a b c k1 x4 k2) (x4.length - 0) 0 () >>= fun r2=>kv r2 (fun x=>some (.fin x)) fun _ =>
  some (.go ())
def dG (a:aw) (b:Int) (c:Int):Option Bool :=
  gZ a.aX c >>= fun x1 =>
  gZ x1 b >>= fun x2 =>
  bif x2 then
    some false
  else
    gZ a.db c >>= fun x3 =>
    ox (fun k1 (st:Unit)=>jN a b c x3 k1) (x3.length - 0) 0 () >>= fun r1=>kv r1 (fun x=>some x) fun _ =>
    some false
def ka (a:aw) (k1:Nat) (k2:Nat) (l3:List Nat):Option (List Nat) :=
  dG a ((k1:Nat):Int) ((k2:Nat):Int) >>= fun r4 =>
  bif r4 then
    cJ 8 l3 ([1]:List Nat) >>= fun l5 =>
    some l5
  else
    cJ 8 l3 ([0]:List Nat) >>= fun l6 =>
    some l6
def j9 (a:aw) (r1:Int) (k1:Nat) (l1:List (List Nat)):Option (List (List Nat)) :=
  dw (fun k2 (st:(List Nat))=>ka a k1 k2 st) ((max 0 (r1).toNat) - 0) 0 ([]:List Nat) >>= fun l4 =>
  cJ 24 l1 ([l4]:List (List Nat)) >>= fun l7 =>
  some l7
def kf (r5:(List (List Nat)) × Int × (List (List am))) (r6:Int) (k3:Nat) (k4:Nat) (l11:List (List Bool)):Option (List (List Bool)) :=
  l11[k3]? >>= fun x5 =>
  r5.1[k4]? >>= fun x6 =>
  dU x6 r6 >>= fun r9 =>
  r9[k3]? >>= fun x7 =>
  cJ 1 x5 ([((x7:Nat):Int) != (0:Int)]:List Bool) >>= fun l13 =>
  some (l11.set k3 l13) >>= fun l14 =>
  some l14
def kb (r5:(List (List Nat)) × Int × (List (List am))) (r6:Int) (k3:Nat) (l9:List (List Bool)):Option (List (List Bool)) :=
  og (max 0 (r6).toNat) >>= fun u2 =>
  dw (fun k4 (st:(List (List Bool)))=>kf r5 r6 k3 k4 st) ((max 0 (r6).toNat) - 0) 0 l9 >>= fun l12 =>
  some l12
def eB (a:aw):Option ((List (List Bool)) × Int × (List (List am))) :=
  bo a >>= fun r1 =>
  og (max 0 (r1).toNat) >>= fun u1 =>
  dw (fun k1 (st:(List (List Nat)))=>j9 a r1 k1 st) ((max 0 (r1).toNat) - 0) 0 ([]:List (List Nat)) >>= fun l2 =>
  cb a.zn l2 >>= fun r5 =>
  bo (⟨(⟨a.zn.zw,r5.2.1,r5.2.2,a.zn.ak⟩:aj),a.zp,a.zd,a.aX,a.bU,a.db⟩:aw) >>= fun r6 =>
  oB 24 r6 r6 ([]:List Bool) >>= fun l8 =>
  dw (fun k3 (st:(List (List Bool)))=>kb r5 r6 k3 st) (l8.length - 0) 0 l8 >>= fun l10 =>
  some (l10,r5.2.1,r5.2.2)
def nn (a:aw) (b:Int) (k1:Nat) (x1:Int):Option Int :=
  gZ a.aX b >>= fun x4 =>
  x4[k1]? >>= fun x5 =>
  bif x5 then
    e7 x1 (1:Int) >>= fun x6 =>
    some x6
  else
    gZ a.bU b >>= fun x7 =>
    x7[k1]? >>= fun x8 =>
    bif x8 then
      e7 x1 (1:Int) >>= fun x9 =>
      some x9
    else
      some x1
def nv (a:aw) (b:Int):Option Bool :=
  bo a >>= fun r1 =>
  og (max 0 (r1).toNat) >>= fun u1 =>
  dw (fun k1 (st:Int)=>nn a b k1 st) ((max 0 (r1).toNat) - 0) 0 ((0:Nat):Int) >>= fun x3 =>
  bv a.zn >>= fun r3 =>
  some (decide (x3 > r3.S.T))
def pD (a:aw) (k1:Nat) (l2:List (List Nat)):Option (List (List Nat)) :=
  bv a.zn >>= fun r3 =>
  e7 r3.S.T (1:Int) >>= fun x2 =>
  oB 8 x2 x2 (0:Nat) >>= fun l4 =>
  l2[k1]? >>= fun x3 =>
  some (l2.set k1 l4) >>= fun l5 =>
  some l5
def mH (a:aw) (b:Int) (c:Int) (d:Bool):Option (List (List Nat)) :=
  bif d then
    gA a c >>= fun r1 =>
    oB 24 r1 r1 (([]:List Nat):List Nat) >>= fun l1 =>
    dw (fun k1 (st:(List (List Nat)))=>pD a k1 st) (l1.length - 0) 0 l1 >>= fun l3 =>
    some l3
  else
    gZ a.aX c >>= fun x4 =>
    gZ x4 b >>= fun x5 =>
    bif x5 then
      gZ a.db c >>= fun x6 =>
      gZ x6 b >>= fun x7 =>
      some x7
    else
      gZ a.zd.Rows b >>= fun x8 =>
      gZ x8 c >>= fun x9 =>
      bV x9 >>= fun r4 =>
      some r4
def rn (a:aj) (b:aR) (r1:ae) (r3:(List (List Bool)) × Int × (List (List am))) (r4:Int × (List (List am)) × (List (List (List (List Nat))))) (r5:(List (List Bool)) × Int × (List (List am))) (k1:Nat) (l1:List Bool):Option (List Bool) :=
  nv (⟨(⟨a.zw,r5.2.1,r5.2.2,a.ak⟩:aj),r1.S.P,b,r3.1,r5.1,r4.2.2⟩:aw) ((k1:Nat):Int) >>= fun r8 =>
  cJ 1 l1 ([r8]:List Bool) >>= fun l3 =>
  some l3
def rr (a:aj) (b:aR) (r1:ae) (r3:(List (List Bool)) × Int × (List (List am))) (r4:Int × (List (List am)) × (List (List (List (List Nat))))) (r5:(List (List Bool)) × Int × (List (List am))) (l2:List Bool) (k2:Nat) (k3:Nat) (l6:List (List (List Nat))):Option (List (List (List Nat))) :=
  l2[k3]? >>= fun x4 =>
  mH (⟨(⟨a.zw,r5.2.1,r5.2.2,a.ak⟩:aj),r1.S.P,b,r3.1,r5.1,r4.2.2⟩:aw) ((k2:Nat):Int) ((k3:Nat):Int) x4 >>= fun r11 =>
  cJ 24 l6 ([r11]:List (List (List Nat))) >>= fun l8 =>
  some l8
def rq (a:aj) (b:aR) (r1:ae) (r3:(List (List Bool)) × Int × (List (List am))) (r4:Int × (List (List am)) × (List (List (List (List Nat))))) (r5:(List (List Bool)) × Int × (List (List am))) (r6:Int) (l2:List Bool) (k2:Nat) (l4:List (List (List (List Nat)))):Option (List (List (List (List Nat)))) :=
  dw (fun k3 (st:(List (List (List Nat))))=>rr a b r1 r3 r4 r5 l2 k2 k3 st) ((max 0 (r6).toNat) - 0) 0 ([]:List (List (List Nat))) >>= fun l7 =>
  cJ 24 l4 ([l7]:List (List (List (List Nat)))) >>= fun l9 =>
  some l9
def oy (a:aj) (b:aR):Option (bi × Int × (List (List am))) :=
  bv a >>= fun r1 =>
  kn (⟨a,r1.S.P,b,([]:List (List Bool)),([]:List (List Bool)),([]:List (List (List (List Nat))))⟩:aw) >>= fun r2 =>
  fj (⟨(⟨a.zw,r2.2.1,r2.2.2,a.ak⟩:aj),r1.S.P,b,([]:List (List Bool)),([]:List (List Bool)),([]:List (List (List (List Nat))))⟩:aw) r2.1 >>= fun r3 =>
  mI (⟨(⟨a.zw,r3.2.1,r3.2.2,a.ak⟩:aj),r1.S.P,b,r3.1,([]:List (List Bool)),([]:List (List (List (List Nat))))⟩:aw) >>= fun r4 =>
  eB (⟨(⟨a.zw,r4.1,r4.2.1,a.ak⟩:aj),r1.S.P,b,r3.1,([]:List (List Bool)),r4.2.2⟩:aw) >>= fun r5 =>
  bo (⟨(⟨a.zw,r5.2.1,r5.2.2,a.ak⟩:aj),r1.S.P,b,r3.1,r5.1,r4.2.2⟩:aw) >>= fun r6 =>
  og (max 0 (r6).toNat) >>= fun u1 =>
  dw (fun k1 (st:(List Bool))=>rn a b r1 r3 r4 r5 k1 st) ((max 0 (r6).toNat) - 0) 0 ([]:List Bool) >>= fun l2 =>
  dw (fun k2 (st:(List (List (List (List Nat)))))=>rq a b r1 r3 r4 r5 r6 l2 k2 st) ((max 0 (r6).toNat) - 0) 0 ([]:List (List (List (List Nat)))) >>= fun l5 =>
  some ((⟨l5,l2⟩:bi),r5.2.1,r5.2.2)
def tv (a:aj) (b:List (List (List Nat))):Option (bi × Int × (List (List am)) × (List aD)) :=
  jP a b >>= fun r1 =>
  oy (⟨a.zw,r1.2.1,r1.2.2.1,r1.2.2.2⟩:aj) r1.1 >>= fun r2 =>
  some (r2.1,r2.2.1,r2.2.2,r1.2.2.2)
def qB (a:bi) (b:Int) (c:Int) (k1:Nat) (l1:List (List Nat)):Option (List (List Nat)) :=
  a.Rows[k1]? >>= fun x2 =>
  ky b (1:Int) >>= fun x3 =>
  gZ x2 x3 >>= fun x4 =>
  gZ x4 c >>= fun x5 =>
  cJ 24 l1 ([x5]:List (List Nat)) >>= fun l3 =>
  some l3
def lI (a:bi) (b:Int) (c:Int):Option (List (List Nat)) :=
  dw (fun k1 (st:(List (List Nat)))=>qB a b c k1 st) (a.Rows.length - 0) 0 ([]:List (List Nat)) >>= fun l2 =>
  some l2
def fM (a:bj) (b:Int) (c:Int):Option ((List (List Nat)) × (List (List Nat))) :=
  na (2:Int) c >>= fun x1 =>
  lI a.zd b x1 >>= fun r1 =>
  e7 x1 (1:Int) >>= fun x2 =>
  lI a.zd b x2 >>= fun r2 =>
  some (r1,r2)
def gF (a:bj) (b:Int) (c:List Nat) (d:List Nat):Option Bool :=
  d[0]? >>= fun x1 =>
  some (rW b) >>= fun x2 =>
  c[0]? >>= fun x3 =>
  du a.zs.P x2 x3 >>= fun r1 =>
  some (((x1:Nat):Int) == ((r1:Nat):Int))
def fY (a:Int) (b:bj) (r1:(List Nat)) (k1:Nat) (l1:List aM):Option (List aM) :=
  r1[k1]? >>= fun x3 =>
  xz ((k1:Nat):Int) b.zm >>= fun x4 =>
  (
    bif ((x3:Nat):Int) != (0:Int) then
      gZ b.zd.bd x4 >>= fun x6 =>
      some (!x6)
    else
      some false
  ) >>= fun x5 =>
  bif x5 then
    e7 x4 (1:Int) >>= fun x7 =>
    FE ((k1:Nat):Int) b.zm >>= fun x8 =>
    cJ 24 l1 ([(⟨a,x7,x8⟩:aM)]:List aM) >>= fun l3 =>
    some l3
  else
    some l1
def ff (a:Int) (b:List Nat) (c:bj) (d:List aM):Option (List aM) :=
  na c.zs.N c.zm >>= fun x1 =>
  dU b x1 >>= fun r1 =>
  dw (fun k1 (st:(List aM))=>fY a c r1 k1 st) (r1.length - 0) 0 d >>= fun l2 =>
  some l2
def gO (a:bj) (k1:Nat) (k2:Nat) (k3:Nat) (l5:List Nat):Option (List Nat) :=
  fM a ((k2:Nat):Int) ((k3:Nat):Int) >>= fun r4 =>
  ky ((k1:Nat):Int) (1:Int) >>= fun x4 =>
  gZ r4.1 x4 >>= fun x5 =>
  gZ r4.2 x4 >>= fun x6 =>
  gF a ((k1:Nat):Int) x5 x6 >>= fun r5 =>
  bif r5 then
    cJ 8 l5 ([0]:List Nat) >>= fun l7 =>
    some l7
  else
    cJ 8 l5 ([1]:List Nat) >>= fun l8 =>
    some l8
def gN (a:bj) (k1:Nat) (k2:Nat) (l3:List Nat):Option (List Nat) :=
  og (max 0 (a.zm).toNat) >>= fun u2 =>
  dw (fun k3 (st:(List Nat))=>gO a k1 k2 k3 st) ((max 0 (a.zm).toNat) - 0) 0 l3 >>= fun l6 =>
  some l6
def gM (a:bj) (k1:Nat) (l1:List (List Nat)):Option (List (List Nat)) :=
  dw (fun k2 (st:(List Nat))=>gN a k1 k2 st) ((max 1 (a.zs.N+1).toNat) - 1) 1 ([]:List Nat) >>= fun l4 =>
  cJ 24 l1 ([l4]:List (List Nat)) >>= fun l9 =>
  some l9
def gP (a:bj) (r6:(List (List Nat)) × Int × (List (List am))) (k4:Nat) (l10:List aM):Option (List aM) :=
  r6.1[k4]? >>= fun x8 =>
  e7 ((k4:Nat):Int) (1:Int) >>= fun x9 =>
  ff x9 x8 (⟨(⟨a.zn.zw,r6.2.1,r6.2.2,a.zn.ak⟩:aj),a.zs,a.zm,a.zd⟩:bj) l10 >>= fun r8 =>
  some r8
def fS (a:bj):Option ((List aM) × Int × (List (List am))) :=
  og (max 1 (a.zs.N+1).toNat) >>= fun u1 =>
  dw (fun k1 (st:(List (List Nat)))=>gM a k1 st) ((max 1 (a.zs.N+1).toNat) - 1) 1 ([]:List (List Nat)) >>= fun l2 =>
  cb a.zn l2 >>= fun r6 =>
  dw (fun k4 (st:(List aM))=>gP a r6 k4 st) (r6.1.length - 0) 0 ([]:List aM) >>= fun l11 =>
  some (l11,r6.2.1,r6.2.2)
def lB (k1:Nat) (x2:List Nat) (k2:Nat) (l4:List (List (List Nat))):Option (List (List (List Nat))) :=
  l4[k1]? >>= fun x4 =>
  cJ 24 x4 ([x2]:List (List Nat)) >>= fun l6 =>
  some (l4.set k1 l6) >>= fun l7 =>
  some l7
def lA (a:List (List Nat)) (k1:Nat) (l2:List (List (List Nat))):Option (List (List (List Nat))) :=
  a[k1]? >>= fun x2 =>
  dw (fun k2 (st:(List (List (List Nat))))=>lB k1 x2 k2 st) (a.length - 0) 0 l2 >>= fun l5 =>
  some l5
def lE (k3:Nat) (r6:(List Nat)) (k5:Nat) (l15:List (List (List Nat))):Option (List (List (List Nat))) :=
  r6[k5]? >>= fun x11 =>
  l15[k3]? >>= fun x12 =>
  x12[k5]? >>= fun x13 =>
  cJ 8 x13 ([x11]:List Nat) >>= fun l17 =>
  some (x12.set k5 l17) >>= fun l18 =>
  some (l15.set k3 l18) >>= fun l19 =>
  some l19
def lD (a:Int) (k3:Nat) (x7:List (List Nat)) (k4:Nat) (l13:List (List (List Nat))):Option (List (List (List Nat))) :=
  x7[k4]? >>= fun x9 =>
  dU x9 a >>= fun r6 =>
  dw (fun k5 (st:(List (List (List Nat))))=>lE k3 r6 k5 st) (r6.length - 0) 0 l13 >>= fun l16 =>
  some l16
def lC (a:Int) (r3:(List (List (List Nat))) × Int × (List (List am))) (k3:Nat) (l9:List (List (List Nat))):Option (List (List (List Nat))) :=
  oB 24 a a ([]:List Nat) >>= fun l11 =>
  l9[k3]? >>= fun x6 =>
  some (l9.set k3 l11) >>= fun l12 =>
  r3.1[k3]? >>= fun x7 =>
  dw (fun k4 (st:(List (List (List Nat))))=>lD a k3 x7 k4 st) (x7.length - 0) 0 l12 >>= fun l14 =>
  some l14
def ll (a:aj) (b:List (List Nat)) (c:Int):Option ((List (List (List Nat))) × Int × (List (List am))) :=
  oB 24 ((b.length:Nat):Int) ((b.length:Nat):Int) ([]:List (List Nat)) >>= fun l1 =>
  dw (fun k1 (st:(List (List (List Nat))))=>lA b k1 st) (b.length - 0) 0 l1 >>= fun l3 =>
  hQ a l3 >>= fun r3 =>
  oB 24 ((r3.1.length:Nat):Int) ((r3.1.length:Nat):Int) ([]:List (List Nat)) >>= fun l8 =>
  dw (fun k3 (st:(List (List (List Nat))))=>lC c r3 k3 st) (r3.1.length - 0) 0 l8 >>= fun l10 =>
  some (l10,r3.2.1,r3.2.2)
def j6 (a:List Nat) (k1:Nat) (l1:List aI):Option (List aI) :=
  a[k1]? >>= fun x2 =>
  e7 ((k1:Nat):Int) (1:Int) >>= fun x3 =>
  some (rW x3) >>= fun x4 =>
  cJ 16 l1 ([(⟨x4,x2⟩:aI)]:List aI) >>= fun l3 =>
  some l3
def dV (a:List Nat):Option (List aI) :=
  dw (fun k1 (st:(List aI))=>j6 a k1 st) (a.length - 0) 0 ([]:List aI) >>= fun l2 =>
  some l2
def mb (a:List aI) (k1:Nat) (l1:List (Int × Bool)):Option (Out (List (Int × Bool)) Bool) :=
  a[k1]? >>= fun x6 =>
  bif (nK l1 ((x6.X:Nat):Int)).getD false then
    some (.fin false)
  else
    some (.go (uL l1 ((x6.X:Nat):Int) true))
def lS (a:List aI) (b:Int) (c:Int):Option Bool :=
  (
    bif decide (b < (0:Int)) then
      some true
    else
      bif decide (c < (0:Int)) then
        some true
      else
        bif decide (c > ((a.length:Nat):Int)) then
          some true
        else
          bif decide (b > ((a.length:Nat):Int)) then
            some true
          else
            e7 b (1:Int) >>= fun x2 =>
            na (2:Int) c >>= fun x3 =>
            e7 x2 x3 >>= fun x4 =>
            some (decide (((a.length:Nat):Int) < x4))
  ) >>= fun x1 =>
  bif x1 then
    some false
  else
    ox (fun k1 (st:(List (Int × Bool)))=>mb a k1 st) (a.length - 0) 0 ([]:List (Int × Bool)) >>= fun r1=>kv r1 (fun x=>some x) fun l2 =>
    some true
def mf (a:Nat) (b:Nat):Option Nat :=
  bif ((b:Nat):Int) == (0:Int) then
    some 0
  else
    some (xD a b) >>= fun x1 =>
    some x1
def pS (a:List Nat) (b:List (List Nat)):Option Bool :=
  b[0]? >>= fun x1 =>
  some (((a.length:Nat):Int) != ((x1.length:Nat):Int))
def cL (a:List (List Nat)) (b:List (List Nat)) (k1:Nat):Option (Out Unit Int) :=
  a[k1]? >>= fun x1 =>
  pS x1 b >>= fun r2 =>
  bif r2 then
    some (.fin ((k1:Nat):Int))
  else
    some (.go ())
def cR (a:List (List Nat)) (b:List (List Nat)):Option Int :=
  ox (fun k1 (st:Unit)=>cL a b k1) (a.length - 0) 0 () >>= fun r1=>kv r1 (fun x=>some x) fun _ =>
  some (-1)
def cK (a:List (List Nat)) (b:List (List Nat)):Option Bool :=
  cR a b >>= fun r1 =>
  some (decide (r1 ≥ (0:Int)))
def pz (a:List (List Nat)):Option Bool :=
  cK a a >>= fun r1 =>
  some (!r1)
def py (a:List (List Nat)):Option Int :=
  bif ((a.length:Nat):Int) == (0:Int) then
    some ((0:Nat):Int)
  else
    a[0]? >>= fun x1 =>
    some ((x1.length:Nat):Int)
def my (a:Nat) (x1:Nat) (x2:Nat) (x3:Nat):Option (Out (Nat × Nat × Nat) Nat) :=
  bif decide (((x2:Nat):Int) > (0:Int)) then
    some (vW x2 1) >>= fun x6 =>
    bif ((x6:Nat):Int) == (1:Int) then
      du a x3 x1 >>= fun r2 =>
      du a x1 x1 >>= fun r3 =>
      um x2 (1:Int) >>= fun x7 =>
      some (.go (r3,x7,r2))
    else
      du a x1 x1 >>= fun r4 =>
      um x2 (1:Int) >>= fun x8 =>
      some (.go (r4,x8,x3))
  else
    some (.fin x3)
def tf (a:Nat) (b:Nat) (c:Nat):Option Nat :=
  uK (fun (st:Nat × Nat × Nat)=>my a st.1 st.2.1 st.2.2) big (b,c,1) >>= fun x5 =>
  some x5
def jX (a:Nat) (b:Nat):Option (Nat × Int) :=
  bif ((b:Nat):Int) == (0:Int) then
    some (0,((8:Nat):Int))
  else
    some (xD a 2) >>= fun x1 =>
    tf a b x1 >>= fun r1 =>
    some (r1,((0:Nat):Int))
def oA (a:Nat) (b:Nat) (c:Nat):Option Nat :=
  mf a c >>= fun r1 =>
  jW a b r1 >>= fun r2 =>
  some r2
def m9 (k1:Nat) (l1:List (List Nat)):Option (List (List Nat)) :=
  l1[k1]? >>= fun x2 =>
  cj x2 >>= fun r3 =>
  some (l1.set k1 r3) >>= fun l3 =>
  some l3
def hO (l4:List (List Nat)) (k2:Nat) (x6:Int) (x7:Int):Option (Out (Int × Int) Int) :=
  (
    bif decide (x7 < ((l4.length:Nat):Int)) then
      some (decide (x6 < (0:Int)))
    else
      some false
  ) >>= fun x10 =>
  bif x10 then
    gZ l4 x7 >>= fun x11 =>
    x11[k2]? >>= fun x12 =>
    bif ((x12:Nat):Int) != (0:Int) then
      e7 x7 (1:Int) >>= fun x13 =>
      some (.go (x7,x13))
    else
      e7 x7 (1:Int) >>= fun x14 =>
      some (.go (x6,x14))
  else
    some (.fin x6)
def lg (a:Nat) (l5:List Int) (x18:List Nat) (r8:Nat × Int) (k3:Nat) (l10:List (List Nat)):Option (List (List Nat)) :=
  x18[k3]? >>= fun x21 =>
  l10[l5.length]? >>= fun x22 =>
  x22[k3]? >>= fun x23 =>
  du a r8.1 x23 >>= fun r10 =>
  some (x22.set k3 r10) >>= fun l12 =>
  some (l10.set l5.length l12) >>= fun l13 =>
  some l13
def li (a:Nat) (l5:List Int) (k4:Nat) (x25:List Nat) (x28:Nat) (x29:List Nat) (k5:Nat) (l16:List (List Nat)):Option (List (List Nat)) :=
  x29[k5]? >>= fun x31 =>
  l16[l5.length]? >>= fun x32 =>
  x32[k5]? >>= fun x33 =>
  x25[k5]? >>= fun x34 =>
  l16[k4]? >>= fun x35 =>
  x35[k5]? >>= fun x36 =>
  du a x28 x33 >>= fun r13 =>
  oA a x36 r13 >>= fun r14 =>
  some (x35.set k5 r14) >>= fun l18 =>
  some (l16.set k4 l18) >>= fun l19 =>
  some l19
def lh (a:Nat) (l5:List Int) (k2:Nat) (k4:Nat) (l14:List (List Nat)):Option (List (List Nat)) :=
  l14[k4]? >>= fun x25 =>
  (
    bif ((k4:Nat):Int) == ((l5.length:Nat):Int) then
      some true
    else
      x25[k2]? >>= fun x27 =>
      some (((x27:Nat):Int) == (0:Int))
  ) >>= fun x26 =>
  bif x26 then
    some l14
  else
    x25[k2]? >>= fun x28 =>
    l14[l5.length]? >>= fun x29 =>
    og x29.length >>= fun u4 =>
    dw (fun k5 (st:(List (List Nat)))=>li a l5 k4 x25 x28 x29 k5 st) (x29.length - 0) 0 l14 >>= fun l17 =>
    some l17
def hJ (a:Nat) (k2:Nat) (l4:List (List Nat)) (l5:List Int) (x3:Nat):Option ((List (List Nat)) × (List Int) × Nat) :=
  uK (fun (st:Int × Int)=>hO l4 k2 st.1 st.2) big ((-1),((l5.length:Nat):Int)) >>= fun x9 =>
  bif decide (x9 < (0:Int)) then
    some (l4,l5,x3)
  else
    (
      bif x9 != ((l5.length:Nat):Int) then
        l4[l5.length]? >>= fun x16 =>
        gZ l4 x9 >>= fun x17 =>
        some ((l4.set x9.toNat x16).set l5.length x17) >>= fun l9 =>
        mf a x3 >>= fun r6 =>
        some (l9,r6)
      else
        some (l4,x3)
    ) >>= fun (l8,x15) =>
    l8[l5.length]? >>= fun x18 =>
    x18[k2]? >>= fun x19 =>
    du a x15 x19 >>= fun r7 =>
    jX a x19 >>= fun r8 =>
    og x18.length >>= fun u3 =>
    dw (fun k3 (st:(List (List Nat)))=>lg a l5 x18 r8 k3 st) (x18.length - 0) 0 l8 >>= fun l11 =>
    dw (fun k4 (st:(List (List Nat)))=>lh a l5 k2 k4 st) (l11.length - 0) 0 l11 >>= fun l15 =>
    cJ 8 l5 ([((k2:Nat):Int)]:List Int) >>= fun l20 =>
    some (l15,l20,r7)
def nt (a:Nat) (b:List (List Nat)) (c:Int):Option lM :=
  bV b >>= fun r1 =>
  og r1.length >>= fun u1 =>
  dw (fun k1 (st:(List (List Nat)))=>m9 k1 st) (r1.length - 0) 0 r1 >>= fun l2 =>
  og (max 0 (c).toNat) >>= fun u2 =>
  dw (fun k2 (st:(List (List Nat)) × (List Int) × Nat)=>hJ a k2 st.1 st.2.1 st.2.2) ((max 0 (c).toNat) - 0) 0 (l2,([]:List Int),1) >>= fun (l6,l7,x5) =>
  some (⟨a,l6,l7,x5⟩:lM)
def lR (a:List (List Nat)) (b:List Nat) (k1:Nat) (l1:List (List Nat)):Option (List (List Nat)) :=
  a[k1]? >>= fun x3 =>
  cj x3 >>= fun r4 =>
  b[k1]? >>= fun x4 =>
  cJ 8 r4 ([x4]:List Nat) >>= fun l3 =>
  cJ 24 l1 ([l3]:List (List Nat)) >>= fun l4 =>
  some l4
def n3 (r2:Int) (l5:List (List Nat)) (k2:Nat):Option (Out Unit ((List Nat) × Int)) :=
  l5[k2]? >>= fun x5 =>
  gZ x5 r2 >>= fun x6 =>
  bif ((x6:Nat):Int) != (0:Int) then
    some (.fin (([]:List Nat),((6:Nat):Int)))
  else
    some (.go ())
def oa (r2:Int) (r5:lM) (k3:Nat) (l7:List Nat):Option (List Nat) :=
  r5.zpivot[k3]? >>= fun x8 =>
  r5.zm[k3]? >>= fun x9 =>
  gZ x9 r2 >>= fun x10 =>
  gZ l7 x8 >>= fun x11 =>
  some (l7.set x8.toNat x10) >>= fun l9 =>
  some l9
def ou (a:Nat) (b:List (List Nat)) (c:List Nat):Option ((List Nat) × Int) :=
  (
    pz b >>= fun r1 =>
    bif !r1 then
      some true
    else
      some (((b.length:Nat):Int) != ((c.length:Nat):Int))
  ) >>= fun x1 =>
  bif x1 then
    some (([]:List Nat),((1:Nat):Int))
  else
    py b >>= fun r2 =>
    dw (fun k1 (st:(List (List Nat)))=>lR b c k1 st) (b.length - 0) 0 ([]:List (List Nat)) >>= fun l2 =>
    nt a l2 r2 >>= fun r5 =>
    qm r5.zm ((r5.zpivot.length:Nat):Int) ((r5.zm.length:Nat):Int) >>= fun l5 =>
    ox (fun k2 (st:Unit)=>n3 r2 l5 k2) (l5.length - 0) 0 () >>= fun r6=>kv r6 (fun x=>some x) fun _ =>
    oB 8 r2 r2 (0:Nat) >>= fun l6 =>
    dw (fun k3 (st:(List Nat))=>oa r2 r5 k3 st) (r5.zpivot.length - 0) 0 l6 >>= fun l8 =>
    some (l8,((0:Nat):Int))
def fK (a:Nat) (x2:aI) (k2:Nat) (l5:List Nat) (x5:Nat):Option ((List Nat) × Nat) :=
  cJ 8 l5 ([x5]:List Nat) >>= fun l7 =>
  du a x5 x2.X >>= fun r3 =>
  some (l7,r3)
def fL (a:Nat) (x2:aI) (k3:Nat) (l8:List Nat) (x8:Nat):Option ((List Nat) × Nat) :=
  mf a x8 >>= fun r5 =>
  cJ 8 l8 ([r5]:List Nat) >>= fun l10 =>
  du a x8 x2.X >>= fun r6 =>
  some (l10,r6)
def io (a:Nat) (b:List aI) (c:Int) (d:Int) (k1:Nat) (l1:List (List Nat)) (l2:List Nat):Option ((List (List Nat)) × (List Nat)) :=
  b[k1]? >>= fun x2 =>
  e7 c d >>= fun x3 =>
  e7 x3 (1:Int) >>= fun x4 =>
  og (max 0 (x4).toNat) >>= fun u1 =>
  dw (fun k2 (st:(List Nat) × Nat)=>fK a x2 k2 st.1 st.2) ((max 0 (x4).toNat) - 0) 0 (([]:List Nat),1) >>= fun (l6,x7) =>
  og (max 0 (d).toNat) >>= fun u2 =>
  dw (fun k3 (st:(List Nat) × Nat)=>fL a x2 k3 st.1 st.2) ((max 0 (d).toNat) - 0) 0 (l6,x2.Y) >>= fun (l9,x10) =>
  cJ 24 l1 ([l9]:List (List Nat)) >>= fun l11 =>
  cJ 8 l2 ([x10]:List Nat) >>= fun l12 =>
  some (l11,l12)
def jT (a:Nat) (b:List aI) (c:Int) (d:Int):Option ((List Nat) × (List Nat) × Bool) :=
  dw (fun k1 (st:(List (List Nat)) × (List Nat))=>io a b c d k1 st.1 st.2) (b.length - 0) 0 (([]:List (List Nat)),([]:List Nat)) >>= fun (l3,l4) =>
  ou a l3 l4 >>= fun r7 =>
  bif r7.2 != (0:Int) then
    some (([]:List Nat),([]:List Nat),false)
  else
    e7 c d >>= fun x11 =>
    e7 x11 (1:Int) >>= fun x12 =>
    qm r7.1 (0:Int) x12 >>= fun l13 =>
    qm r7.1 x12 ((r7.1.length:Nat):Int) >>= fun l14 =>
    cJ 8 ([]:List Nat) l14 >>= fun l15 =>
    cJ 8 l15 ([1]:List Nat) >>= fun l16 =>
    some (l13,l16,true)
def pa (a:List Nat) (x2:Int):Option (Out Int (Int ⊕ Unit)) :=
  bif decide (x2 ≥ (0:Int)) then
    gZ a x2 >>= fun x3 =>
    bif ((x3:Nat):Int) != (0:Int) then
      some (.fin (.inl x2))
    else
      ky x2 (1:Int) >>= fun x4 =>
      some (.go x4)
  else
    some (.fin (.inr ()))
def nL (a:List Nat):Option Int :=
  ky ((a.length:Nat):Int) (1:Int) >>= fun x1 =>
  uK (fun (st:Int)=>pa a st) big x1 >>= fun r1=>Jh r1 (fun x=>some x) fun _ =>
  some (-1)
def iK (a:List Nat):Option (List Nat) :=
  nL a >>= fun r1 =>
  e7 r1 (1:Int) >>= fun x1 =>
  qm a (0:Int) x1 >>= fun l1 =>
  cJ 8 ([]:List Nat) l1 >>= fun l2 =>
  some l2
def pc (a:Nat) (r1:(List Nat)) (x6:Int) (r5:Nat) (k1:Nat) (l9:List Nat):Option (List Nat) :=
  r1[k1]? >>= fun x11 =>
  e7 x6 ((k1:Nat):Int) >>= fun x12 =>
  gZ l9 x12 >>= fun x13 =>
  du a r5 x11 >>= fun r7 =>
  oA a x13 r7 >>= fun r8 =>
  some (l9.set x12.toNat r8) >>= fun l11 =>
  some l11
def jq (a:Nat) (r1:(List Nat)) (r2:Nat × Int) (l2:List Nat) (l3:List Nat):Option (Out ((List Nat) × (List Nat)) ((List Nat) × (List Nat))) :=
  bif decide (((l2.length:Nat):Int) ≥ ((r1.length:Nat):Int)) then
    ky ((l2.length:Nat):Int) ((r1.length:Nat):Int) >>= fun x6 =>
    ky ((l2.length:Nat):Int) (1:Int) >>= fun x7 =>
    gZ l2 x7 >>= fun x8 =>
    du a x8 r2.1 >>= fun r5 =>
    gZ l3 x6 >>= fun x9 =>
    some (l3.set x6.toNat r5) >>= fun l8 =>
    dw (fun k1 (st:(List Nat))=>pc a r1 x6 r5 k1 st) (r1.length - 0) 0 l2 >>= fun l10 =>
    iK l10 >>= fun r9 =>
    some (.go (r9,l8))
  else
    some (.fin (l2,l3))
def pA (a:Nat) (b:List Nat) (c:List Nat):Option ((List Nat) × (List Nat) × Int) :=
  iK c >>= fun r1 =>
  bif ((r1.length:Nat):Int) == (0:Int) then
    some (([]:List Nat),([]:List Nat),((8:Nat):Int))
  else
    ky ((r1.length:Nat):Int) (1:Int) >>= fun x1 =>
    gZ r1 x1 >>= fun x2 =>
    jX a x2 >>= fun r2 =>
    iK b >>= fun r3 =>
    ky ((r3.length:Nat):Int) ((r1.length:Nat):Int) >>= fun x3 =>
    e7 x3 (1:Int) >>= fun x4 =>
    some (max (0:Int) x4) >>= fun x5 =>
    oB 8 x5 x5 (0:Nat) >>= fun l1 =>
    uK (fun (st:(List Nat) × (List Nat))=>jq a r1 r2 st.1 st.2) big (r3,l1) >>= fun (l6,l7) =>
    iK l7 >>= fun r10 =>
    some (r10,l6,((0:Nat):Int))
def fX (a:Nat) (b:List Nat) (c:List aI) (k1:Nat) (l1:List Int):Option (List Int) :=
  c[k1]? >>= fun x2 =>
  iJ a b x2.X >>= fun r2 =>
  bif ((r2:Nat):Int) != ((x2.Y:Nat):Int) then
    cJ 8 l1 ([((k1:Nat):Int)]:List Int) >>= fun l3 =>
    some l3
  else
    some l1
def fe (a:Nat) (b:List Nat) (c:List aI):Option (List Int) :=
  dw (fun k1 (st:(List Int))=>fX a b c k1 st) (c.length - 0) 0 ([]:List Int) >>= fun l2 =>
  some l2
def dW (a:Nat) (b:List aI) (c:Int) (d:Int):Option ((List Nat) × (List Int) × Int) :=
  lS b c d >>= fun r1 =>
  bif !r1 then
    some (([]:List Nat),([]:List Int),((1:Nat):Int))
  else
    jT a b c d >>= fun r2 =>
    bif !r2.2.2 then
      some (([]:List Nat),([]:List Int),((9:Nat):Int))
    else
      pA a r2.1 r2.2.1 >>= fun r3 =>
      (
        bif decide (((r3.2.1.length:Nat):Int) > (0:Int)) then
          some true
        else
          nL r3.1 >>= fun r4 =>
          some (decide (r4 > c))
      ) >>= fun x1 =>
      bif x1 then
        some (([]:List Nat),([]:List Int),((9:Nat):Int))
      else
        fe a r3.1 b >>= fun r5 =>
        bif decide (((r5.length:Nat):Int) > d) then
          some (([]:List Nat),([]:List Int),((9:Nat):Int))
        else
          some (r3.1,r5,((0:Nat):Int))
def eA (a:Int):Option (List Nat) :=
  bif decide (a < (0:Int)) then
    none
  else
    ky a (0:Int) >>= fun x1 =>
    bif decide (x1 > (0:Int)) then
      oB 8 x1 x1 (0:Nat) >>= fun l1 =>
      qm l1 (0:Int) (0:Int) >>= fun l2 =>
      some l2
    else
      some ([]:List Nat)
def cY (a:List (List Nat)) (k1:Nat) (x1:Int):Option Int :=
  a[k1]? >>= fun x4 =>
  e7 x1 ((x4.length:Nat):Int) >>= fun x5 =>
  bif decide (x5 < (0:Int)) then
    none
  else
    some x5
def cZ (a:List (List Nat)) (k2:Nat) (l1:List Nat):Option (List Nat) :=
  a[k2]? >>= fun x7 =>
  cJ 8 l1 x7 >>= fun l3 =>
  some l3
def eW (a:List (List Nat)):Option (List Nat) :=
  dw (fun k1 (st:Int)=>cY a k1 st) (a.length - 0) 0 ((0:Nat):Int) >>= fun x3 =>
  eA x3 >>= fun r2 =>
  dw (fun k2 (st:(List Nat))=>cZ a k2 st) (a.length - 0) 0 r2 >>= fun l2 =>
  some l2
def lx (a:List (List (List Nat))) (b:List Int) (r1:ae) (k1:Nat) (k2:Nat) (l5:List (List Nat)):Option (List (List Nat)) :=
  a[k2]? >>= fun x3 =>
  l5[k1]? >>= fun x4 =>
  x3[k1]? >>= fun x5 =>
  b[k2]? >>= fun x6 =>
  some (rW x6) >>= fun x7 =>
  iJ r1.S.P x5 x7 >>= fun r4 =>
  cJ 8 x4 ([r4]:List Nat) >>= fun l7 =>
  some (l5.set k1 l7) >>= fun l8 =>
  some l8
def lv (a:List (List (List Nat))) (b:List Int) (r1:ae) (k1:Nat) (l3:List (List Nat)):Option (List (List Nat)) :=
  dw (fun k2 (st:(List (List Nat)))=>lx a b r1 k1 k2 st) (a.length - 0) 0 l3 >>= fun l6 =>
  some l6
def lz (r1:ae) (k3:Nat) (x9:List (List Nat)) (k4:Nat) (l11:List (List (List Nat))):Option (List (List (List Nat))) :=
  x9[k4]? >>= fun x11 =>
  dV x11 >>= fun r8 =>
  dW r1.S.P r8 r1.S.T r1.S.T >>= fun r9 =>
  l11[k3]? >>= fun x12 =>
  e7 r1.S.T (1:Int) >>= fun x13 =>
  ky x13 ((r9.1.length:Nat):Int) >>= fun x14 =>
  oB 8 x14 x14 (0:Nat) >>= fun l13 =>
  eW ([r9.1,l13]:List (List Nat)) >>= fun r10 =>
  cJ 24 x12 ([r10]:List (List Nat)) >>= fun l14 =>
  some (l11.set k3 l14) >>= fun l15 =>
  some l15
def ly (r1:ae) (r5:(List (List (List Nat))) × Int × (List (List am))) (k3:Nat) (l9:List (List (List Nat))):Option (List (List (List Nat))) :=
  r5.1[k3]? >>= fun x9 =>
  dw (fun k4 (st:(List (List (List Nat))))=>lz r1 k3 x9 k4 st) (x9.length - 0) 0 l9 >>= fun l12 =>
  some l12
def ia (a:aj) (b:List (List (List Nat))) (c:List Int):Option ((List (List (List Nat))) × Int × (List (List am))) :=
  bv a >>= fun r1 =>
  oB 24 r1.S.N r1.S.N ([]:List (List Nat)) >>= fun l1 =>
  bif ((b.length:Nat):Int) == (0:Int) then
    some (l1,a.af,a.au)
  else
    oB 24 r1.S.N r1.S.N ([]:List Nat) >>= fun l2 =>
    dw (fun k1 (st:(List (List Nat)))=>lv b c r1 k1 st) (l2.length - 0) 0 l2 >>= fun l4 =>
    ll a l4 ((b.length:Nat):Int) >>= fun r5 =>
    dw (fun k3 (st:(List (List (List Nat))))=>ly r1 r5 k3 st) (r5.1.length - 0) 0 l1 >>= fun l10 =>
    some (l10,r5.2.1,r5.2.2)
def eh (a:bj) (b:List aM) (k1:Nat) (l2:List (List (List Nat))) (l3:List Int):Option ((List (List (List Nat))) × (List Int)) :=
  b[k1]? >>= fun x2 =>
  fM a x2.zdealer x2.zk >>= fun r2 =>
  cJ 24 l2 ([r2.1,r2.2]:List (List (List Nat))) >>= fun l6 =>
  cJ 8 l3 ([x2.zby,x2.zby]:List Int) >>= fun l7 =>
  some (l6,l7)
def jL (a:bj) (b:List aM) (r3:(List (List (List Nat))) × Int × (List (List am))) (k2:Nat) (l8:List Bool):Option (List Bool) :=
  b[k2]? >>= fun x4 =>
  r3.1[0]? >>= fun x5 =>
  na (2:Int) ((k2:Nat):Int) >>= fun x6 =>
  gZ x5 x6 >>= fun x7 =>
  e7 x6 (1:Int) >>= fun x8 =>
  gZ x5 x8 >>= fun x9 =>
  gF (⟨(⟨a.zn.zw,r3.2.1,r3.2.2,a.zn.ak⟩:aj),a.zs,a.zm,a.zd⟩:bj) x4.zby x7 x9 >>= fun r5 =>
  bif !r5 then
    ky x4.zdealer (1:Int) >>= fun x10 =>
    gZ l8 x10 >>= fun x11 =>
    some (l8.set x10.toNat true) >>= fun l10 =>
    some l10
  else
    some l8
def ji (a:bj) (b:List aM):Option ((List Bool) × Int × (List (List am))) :=
  cJ 1 ([]:List Bool) a.zd.bd >>= fun l1 =>
  dw (fun k1 (st:(List (List (List Nat))) × (List Int))=>eh a b k1 st.1 st.2) (b.length - 0) 0 (([]:List (List (List Nat))),([]:List Int)) >>= fun (l4,l5) =>
  ia a.zn l4 l5 >>= fun r3 =>
  dw (fun k2 (st:(List Bool))=>jL a b r3 k2 st) (b.length - 0) 0 l1 >>= fun l9 =>
  some (l9,r3.2.1,r3.2.2)
def pg (a:aS) (b:Nat) (k1:Nat) (l1:List (List Nat)):Option (List (List Nat)) :=
  e7 a.T (1:Int) >>= fun x2 =>
  oB 8 x2 x2 (0:Nat) >>= fun l3 =>
  l3[0]? >>= fun x3 =>
  some (l3.set 0 b) >>= fun l4 =>
  cJ 24 l1 ([l4]:List (List Nat)) >>= fun l5 =>
  some l5
def lT (a:aS) (b:Nat):Option (List (List Nat)) :=
  og (max 0 (a.N).toNat) >>= fun u1 =>
  dw (fun k1 (st:(List (List Nat)))=>pg a b k1 st) ((max 0 (a.N).toNat) - 0) 0 ([]:List (List Nat)) >>= fun l2 =>
  some l2
def nj (a:Nat) (b:Nat) (c:Nat):Option Nat :=
  jW c a b >>= fun r1 =>
  some r1
def cW (a:List Nat) (b:List Nat) (c:Nat) (k1:Nat) (l2:List Nat):Option (List Nat) :=
  a[k1]? >>= fun x2 =>
  b[k1]? >>= fun x3 =>
  nj x2 x3 c >>= fun r2 =>
  l2[k1]? >>= fun x4 =>
  some (l2.set k1 r2) >>= fun l4 =>
  some l4
def dp (a:List Nat) (b:List Nat) (c:Nat):Option (List Nat) :=
  oB 8 ((a.length:Nat):Int) ((a.length:Nat):Int) (0:Nat) >>= fun l1 =>
  dw (fun k1 (st:(List Nat))=>cW a b c k1 st) (a.length - 0) 0 l1 >>= fun l3 =>
  some l3
def mD (a:List Nat) (b:List Nat) (c:Nat):Option (List Nat) :=
  dp a b c >>= fun r1 =>
  some r1
def cV (a:List (List Nat)) (b:List (List Nat)) (c:Nat) (k1:Nat) (l2:List (List Nat)):Option (List (List Nat)) :=
  a[k1]? >>= fun x2 =>
  b[k1]? >>= fun x3 =>
  mD x2 x3 c >>= fun r2 =>
  l2[k1]? >>= fun x4 =>
  some (l2.set k1 r2) >>= fun l4 =>
  some l4
def dm (a:List (List Nat)) (b:List (List Nat)) (c:Nat):Option (List (List Nat)) :=
  oB 24 ((a.length:Nat):Int) ((a.length:Nat):Int) (([]:List Nat):List Nat) >>= fun l1 =>
  dw (fun k1 (st:(List (List Nat)))=>cV a b c k1 st) (a.length - 0) 0 l1 >>= fun l3 =>
  some l3
def jM (a:Nat) (b:List (List Nat)) (c:List (List Nat)):Option (List (List Nat)) :=
  dm b c a >>= fun r1 =>
  some r1
def q9 (a:Nat) (b:List (List Nat)) (c:List (List Nat)):Option (List (List Nat)) :=
  jM a b c >>= fun r1 =>
  some r1
def dO (a:aj) (b:Int) (r1:ae) (k1:Nat) (l2:List aD) (l3:List (List (List (List Nat)))) (l4:List Bool) (l5:List (List (List Nat))):Option ((List aD) × (List (List (List (List Nat)))) × (List Bool) × (List (List (List Nat)))) :=
  jK (⟨(⟨a.zw,a.af,a.au,l2⟩:aj),r1.S,b,(⟨l3,l4⟩:bi)⟩:bj) ((k1:Nat):Int) >>= fun r3 =>
  cJ 24 l5 ([r3.1]:List (List (List Nat))) >>= fun l10 =>
  some (r3.2,l3,l4,l10)
def jt (a:aj) (b:Int) (r1:ae) (r4:bi × Int × (List (List am)) × (List aD)) (r6:(List Bool) × Int × (List (List am))) (k2:Nat) (k3:Nat) (l13:List (List Nat)):Option (List (List Nat)) :=
  ky ((k3:Nat):Int) (1:Int) >>= fun x4 =>
  gZ r6.1 x4 >>= fun x5 =>
  bif !x5 then
    fM (⟨(⟨a.zw,r6.2.1,r6.2.2,r4.2.2.2⟩:aj),r1.S,b,r4.1⟩:bj) ((k3:Nat):Int) ((k2:Nat):Int) >>= fun r10 =>
    q9 r1.S.P l13 r10.2 >>= fun r11 =>
    some r11
  else
    some l13
def gt (a:aj) (b:Int) (r1:ae) (r4:bi × Int × (List (List am)) × (List aD)) (r6:(List Bool) × Int × (List (List am))) (k2:Nat) (l11:List (List (List Nat))):Option (List (List (List Nat))) :=
  lT r1.S 0 >>= fun r8 =>
  dw (fun k3 (st:(List (List Nat)))=>jt a b r1 r4 r6 k2 k3 st) ((max 1 (r1.S.N+1).toNat) - 1) 1 r8 >>= fun l14 =>
  cJ 24 l11 ([l14]:List (List (List Nat))) >>= fun l15 =>
  some l15
def dt (a:aj) (b:Int):Option ((List (List (List Nat))) × (List Bool) × Int × (List (List am)) × (List aD)) :=
  bv a >>= fun r1 =>
  bif b == (0:Int) then
    oB 1 r1.S.N r1.S.N (false:Bool) >>= fun l1 =>
    some (([]:List (List (List Nat))),l1,a.af,a.au,a.ak)
  else
    og (max 1 (r1.S.N+1).toNat) >>= fun u1 =>
    dw (fun k1 (st:(List aD) × (List (List (List (List Nat)))) × (List Bool) × (List (List (List Nat))))=>dO a b r1 k1 st.1 st.2.1 st.2.2.1 st.2.2.2) ((max 1 (r1.S.N+1).toNat) - 1) 1 (a.ak,([]:List (List (List (List Nat)))),([]:List Bool),([]:List (List (List Nat)))) >>= fun (l6,l7,l8,l9) =>
    tv (⟨a.zw,a.af,a.au,l6⟩:aj) l9 >>= fun r4 =>
    fS (⟨(⟨a.zw,r4.2.1,r4.2.2.1,r4.2.2.2⟩:aj),r1.S,b,r4.1⟩:bj) >>= fun r5 =>
    ji (⟨(⟨a.zw,r5.2.1,r5.2.2,r4.2.2.2⟩:aj),r1.S,b,r4.1⟩:bj) r5.1 >>= fun r6 =>
    og (max 0 (b).toNat) >>= fun u2 =>
    dw (fun k2 (st:(List (List (List Nat))))=>gt a b r1 r4 r6 k2 st) ((max 0 (b).toNat) - 0) 0 ([]:List (List (List Nat))) >>= fun l12 =>
    some (l12,r6.1,r6.2.1,r6.2.2,r4.2.2.2)
def pU (a:List Nat) (b:List Nat) (k1:Nat):Option (Out Unit Bool) :=
  a[k1]? >>= fun x1 =>
  b[k1]? >>= fun x2 =>
  bif ((x1:Nat):Int) != ((x2:Nat):Int) then
    some (.fin false)
  else
    some (.go ())
def mQ (a:List Nat) (b:List Nat):Option Bool :=
  bif ((a.length:Nat):Int) != ((b.length:Nat):Int) then
    some false
  else
    ox (fun k1 (st:Unit)=>pU a b k1) (a.length - 0) 0 () >>= fun r1=>kv r1 (fun x=>some x) fun _ =>
    some true
def sL (a:List (List Nat)) (b:List (List Nat)) (k1:Nat):Option (Out Unit Bool) :=
  a[k1]? >>= fun x1 =>
  b[k1]? >>= fun x2 =>
  mQ x1 x2 >>= fun r2 =>
  bif !r2 then
    some (.fin false)
  else
    some (.go ())
def pB (a:List (List Nat)) (b:List (List Nat)):Option Bool :=
  bif ((a.length:Nat):Int) != ((b.length:Nat):Int) then
    some false
  else
    ox (fun k1 (st:Unit)=>sL a b k1) (a.length - 0) 0 () >>= fun r1=>kv r1 (fun x=>some x) fun _ =>
    some true
def lY (a:aj):Option Int :=
  some a.af
def rm (a:aS) (b:Int):Option Int :=
  e7 a.T (1:Int) >>= fun x1 =>
  na a.T x1 >>= fun x2 =>
  e7 a.T x2 >>= fun x3 =>
  na b x3 >>= fun x4 =>
  some x4
def lZ  : Option Bool :=
  mh (⟨(⟨31,((4:Nat):Int),((1:Nat):Int)⟩:aS),([]:List Int),([]:List aQ),([([5,7,9]:List Nat),([1,1,1]:List Nat),([2,0,20]:List Nat),([3,4,0]:List Nat)]:List (List Nat))⟩:ae) >>= fun r1 =>
  Dq r1 (fun r2 =>
    some false)
  (fun r3 =>
    dt r3 ((1:Nat):Int) >>= fun r4 =>
    oB 24 (4:Int) (4:Int) (([]:List Nat):List Nat) >>= fun l1 =>
    mh (⟨(⟨31,((4:Nat):Int),((1:Nat):Int)⟩:aS),([]:List Int),([]:List aQ),l1⟩:ae) >>= fun r5 =>
    Dq r5 (fun r6 =>
      some false)
    (fun r7 =>
      (
        bif ((r4.1.length:Nat):Int) != (1:Int) then
          some true
        else
          some (((r4.2.1.length:Nat):Int) != (4:Int))
      ) >>= fun x1 =>
      bif x1 then
        some false
      else
        dt r7 ((0:Nat):Int) >>= fun r8 =>
        r4.1[0]? >>= fun x2 =>
        pB x2 ([([11,10]:List Nat),([22,9]:List Nat),([2,8]:List Nat),([13,7]:List Nat)]:List (List Nat)) >>= fun r9 =>
        bif r9 then
          r4.2.1[0]? >>= fun x3 =>
          bif !x3 then
            lY (⟨r3.zw,r4.2.2.1,r4.2.2.2.1,r4.2.2.2.2⟩:aj) >>= fun r10 =>
            bif r10 == (8:Int) then
              fG (⟨r3.zw,r4.2.2.1,r4.2.2.2.1,r4.2.2.2.2⟩:aj) ((2:Nat):Int) >>= fun r11 =>
              r4.2.2.2.2[r11]? >>= fun x4 =>
              jk x4 >>= fun r12 =>
              bif r12 == (0:Int) then
                rm (⟨31,((4:Nat):Int),((1:Nat):Int)⟩:aS) ((2:Nat):Int) >>= fun r13 =>
                bif r13 == (6:Int) then
                  bif ((r8.1.length:Nat):Int) == (0:Int) then
                    bif ((r8.2.1.length:Nat):Int) == (4:Int) then
                      lY (⟨r7.zw,r8.2.2.1,r8.2.2.2.1,r8.2.2.2.2⟩:aj) >>= fun r14 =>
                      some (r14 == (0:Int))
                    else
                      some false
                  else
                    some false
                else
                  some false
              else
                some false
            else
              some false
          else
            some false
        else
          some false))
def mB  : Option (List Int) :=
  some ([((5:Nat):Int),((7:Nat):Int),((13:Nat):Int),((17:Nat):Int),((19:Nat):Int),((31:Nat):Int),((61:Nat):Int)]:List Int)
def fR (a:Nat) (r1:(List Int)) (k1:Nat):Option (Out Unit Int) :=
  r1[k1]? >>= fun x1 =>
  some (rW x1) >>= fun x2 =>
  Bv 1 ((x2:Nat):Int) >>= fun x3 =>
  some (xD x3 1) >>= fun x4 =>
  bif ((a:Nat):Int) == ((x4:Nat):Int) then
    some (.fin x1)
  else
    some (.go ())
def jZ (a:Nat):Option Int :=
  mB >>= fun r1 =>
  ox (fun k1 (st:Unit)=>fR a r1 k1) (r1.length - 0) 0 () >>= fun r2=>kv r2 (fun x=>some x) fun _ =>
  some ((0:Nat):Int)
def gK (a:Nat):Option Bool :=
  jZ a >>= fun r1 =>
  some (decide (r1 > (0:Int)))
def im (a:aS):Option Bool :=
  gK a.P >>= fun r1 =>
  bif r1 then
    bif decide (a.N ≥ (4:Int)) then
      bif decide (a.N≤(13:Int)) then
        some (rW a.N) >>= fun x1 =>
        bif decide (((x1:Nat):Int) < ((a.P:Nat):Int)) then
          bif decide (a.T ≥ (1:Int)) then
            bif decide (a.T < a.N) then
              na (3:Int) a.T >>= fun x2 =>
              some (decide (x2 < a.N))
            else
              some false
          else
            some false
        else
          some false
      else
        some false
    else
      some false
  else
    some false
def fJ (a:aS) (b:List Int) (k1:Nat):Option (Out Unit Bool) :=
  b[k1]? >>= fun x2 =>
  bif decide (x2 < (1:Int)) then
    some (.fin false)
  else
    bif decide (x2 > a.N) then
      some (.fin false)
    else
      bif decide (((k1:Nat):Int) > (0:Int)) then
        ky ((k1:Nat):Int) (1:Int) >>= fun x3 =>
        gZ b x3 >>= fun x4 =>
        bif decide (x2≤x4) then
          some (.fin false)
        else
          some (.go ())
      else
        some (.go ())
def eZ (a:aS) (b:List Int):Option Bool :=
  (
    im a >>= fun r1 =>
    bif !r1 then
      some true
    else
      some (decide (((b.length:Nat):Int) > a.T))
  ) >>= fun x1 =>
  bif x1 then
    some false
  else
    ox (fun k1 (st:Unit)=>fJ a b k1) (b.length - 0) 0 () >>= fun r2=>kv r2 (fun x=>some x) fun _ =>
    some true
def gL (a:aS) (b:aQ):Option Bool :=
  bif decide (b.Round ≥ (0:Int)) then
    bif decide (b.At ≥ (0:Int)) then
      bif decide (b.bA ≥ (0:Int)) then
        bif decide (b.From ≥ (1:Int)) then
          bif decide (b.From≤a.N) then
            bif decide (b.To ≥ (0:Int)) then
              bif decide (b.To≤a.N) then
                bif decide (b.Kind ≥ (1:Int)) then
                  bif decide (b.Kind≤(4:Int)) then
                    bif decide (b.Of ≥ (0:Int)) then
                      bif decide (b.Of≤a.N) then
                        bif b.Kind != (3:Int) then
                          some true
                        else
                          some (decide (b.Of ≥ (1:Int)))
                      else
                        some false
                    else
                      some false
                  else
                    some false
                else
                  some false
              else
                some false
            else
              some false
          else
            some false
        else
          some false
      else
        some false
    else
      some false
  else
    some false
def j0 (a:Nat) (b:List Nat) (k1:Nat):Option (Out Unit Bool) :=
  b[k1]? >>= fun x1 =>
  bif decide (((x1:Nat):Int) ≥ ((a:Nat):Int)) then
    some (.fin false)
  else
    some (.go ())
def jI (a:Nat) (b:List Nat):Option Bool :=
  ox (fun k1 (st:Unit)=>j0 a b k1) (b.length - 0) 0 () >>= fun r1=>kv r1 (fun x=>some x) fun _ =>
  some true
def fV (a:ae) (k1:Nat):Option (Out Unit Bool) :=
  a.aa[k1]? >>= fun x2 =>
  gL a.S x2 >>= fun r4 =>
  bif !r4 then
    some (.fin false)
  else
    some (.go ())
def fW (a:ae) (k2:Nat):Option (Out Unit Bool) :=
  a.aA[k2]? >>= fun x3 =>
  jI a.S.P x3 >>= fun r6 =>
  bif !r6 then
    some (.fin false)
  else
    some (.go ())
def de (a:ae):Option Bool :=
  (
    im a.S >>= fun r1 =>
    bif !r1 then
      some true
    else
      eZ a.S a.ah >>= fun r2 =>
      bif !r2 then
        some true
      else
        some (((a.aA.length:Nat):Int) != a.S.N)
  ) >>= fun x1 =>
  bif x1 then
    some false
  else
    ox (fun k1 (st:Unit)=>fV a k1) (a.aa.length - 0) 0 () >>= fun r3=>kv r3 (fun x=>some x) fun _ =>
    ox (fun k2 (st:Unit)=>fW a k2) (a.aA.length - 0) 0 () >>= fun r5=>kv r5 (fun x=>some x) fun _ =>
    some true
def kM (a:ae) (b:Int) (k1:Nat):Option (Out Unit Bool) :=
  a.aA[k1]? >>= fun x2 =>
  bif decide (((x2.length:Nat):Int) > b) then
    some (.fin false)
  else
    some (.go ())
def kj (a:ae) (b:Int) (c:Int):Option Bool :=
  (
    bif decide (((a.aa.length:Nat):Int) > b) then
      some true
    else
      bif decide (((a.aA.length:Nat):Int) > (13:Int)) then
        some true
      else
        some (decide (((a.ah.length:Nat):Int) > (13:Int)))
  ) >>= fun x1 =>
  bif x1 then
    some false
  else
    ox (fun k1 (st:Unit)=>kM a c k1) (a.aA.length - 0) 0 () >>= fun r1=>kv r1 (fun x=>some x) fun _ =>
    de a >>= fun r2 =>
    some r2
def mC (a:Int):Option Int :=
  e7 a (1:Int) >>= fun x1 =>
  na a x1 >>= fun x2 =>
  xz x2 (2:Int) >>= fun x3 =>
  some x3
def iP (a:aS) (b:Int):Option Int :=
  mC a.T >>= fun r1 =>
  na (2:Int) r1 >>= fun x1 =>
  e7 a.T x1 >>= fun x2 =>
  na b x2 >>= fun x3 =>
  some x3
def kL (a:ae) (b:Int) (k1:Nat):Option (Out Unit Bool) :=
  a.aA[k1]? >>= fun x2 =>
  iP a.S b >>= fun r3 =>
  bif decide (((x2.length:Nat):Int) < r3) then
    some (.fin false)
  else
    some (.go ())
def ki (a:ae) (b:Int) (c:Int):Option Bool :=
  (
    kj a ((10:Nat):Int) ((100:Nat):Int) >>= fun r1 =>
    bif !r1 then
      some true
    else
      bif decide (b < (0:Int)) then
        some true
      else
        bif decide (b > c) then
          some true
        else
          some (decide (a.S.N > (7:Int)))
  ) >>= fun x1 =>
  bif x1 then
    some false
  else
    ox (fun k1 (st:Unit)=>kL a b k1) (a.aA.length - 0) 0 () >>= fun r2=>kv r2 (fun x=>some x) fun _ =>
    some true
def jJ (a:ae) (b:Int) (k1:Nat):Option (Out Unit Bool) :=
  a.ah[k1]? >>= fun x1 =>
  bif x1 == b then
    some (.fin false)
  else
    some (.go ())
def gE (a:ae) (b:Int):Option Bool :=
  ox (fun k1 (st:Unit)=>jJ a b k1) (a.ah.length - 0) 0 () >>= fun r1=>kv r1 (fun x=>some x) fun _ =>
  some true
def fO (a:List Nat) (b:Nat) (k1:Nat):Option (Out Unit Int) :=
  a[k1]? >>= fun x1 =>
  bif ((b:Nat):Int) == ((x1:Nat):Int) then
    some (.fin ((k1:Nat):Int))
  else
    some (.go ())
def gR (a:List Nat) (b:Nat):Option Int :=
  ox (fun k1 (st:Unit)=>fO a b k1) (a.length - 0) 0 () >>= fun r1=>kv r1 (fun x=>some x) fun _ =>
  some (-1)
def en (a:List Nat) (b:Nat):Option Bool :=
  gR a b >>= fun r1 =>
  some (decide (r1 ≥ (0:Int)))
def mY (a:Int) (b:List Nat) (c:List (List Nat)) (k1:Nat):Option (Out Unit Bool) :=
  b[k1]? >>= fun x3 =>
  qm b (0:Int) ((k1:Nat):Int) >>= fun l1 =>
  en l1 x3 >>= fun r2 =>
  bif r2 then
    some (.fin false)
  else
    c[k1]? >>= fun x4 =>
    e7 a (1:Int) >>= fun x5 =>
    bif ((x4.length:Nat):Int) != x5 then
      some (.fin false)
    else
      some (.go ())
def nr (a:Int) (b:List Nat) (c:List (List Nat)):Option Bool :=
  (
    bif decide (a < (0:Int)) then
      some true
    else
      bif ((b.length:Nat):Int) != ((c.length:Nat):Int) then
        some true
      else
        e7 a (1:Int) >>= fun x2 =>
        some (decide (((c.length:Nat):Int) < x2))
  ) >>= fun x1 =>
  bif x1 then
    some false
  else
    ox (fun k1 (st:Unit)=>mY a b c k1) (b.length - 0) 0 () >>= fun r1=>kv r1 (fun x=>some x) fun _ =>
    some true
def pR (a:Nat):Option Int :=
  lP a >>= fun r1 =>
  some r1
def lc (a:Nat):Option Bool :=
  some (((a:Nat):Int) != ((a:Nat):Int))
def lO (a:Nat) (b:Nat):Option Bool :=
  lc a >>= fun r1 =>
  bif r1 then
    lc b >>= fun r2 =>
    bif !r2 then
      some true
    else
      some (decide (((a:Nat):Int) < ((b:Nat):Int)))
  else
    some (decide (((a:Nat):Int) < ((b:Nat):Int)))
def cA (a:Int) (l4:List Nat) (x3:Int):Option (Out ((List Nat) × Int) (List Nat)) :=
  (
    bif decide (x3 > a) then
      gZ l4 x3 >>= fun x5 =>
      ky x3 (1:Int) >>= fun x6 =>
      gZ l4 x6 >>= fun x7 =>
      lO x5 x7 >>= fun r3 =>
      some r3
    else
      some false
  ) >>= fun x4 =>
  bif x4 then
    ky x3 (1:Int) >>= fun x8 =>
    gZ l4 x8 >>= fun x9 =>
    gZ l4 x3 >>= fun x10 =>
    some (l4.set x3.toNat x9) >>= fun l7 =>
    gZ l7 x8 >>= fun x11 =>
    some (l7.set x8.toNat x10) >>= fun l8 =>
    some (.go (l8,x8))
  else
    some (.fin l4)
def cz (a:Int) (b:Int) (l1:List Nat) (x2:Int):Option (Out ((List Nat) × Int) (List Nat)) :=
  bif decide (x2 < b) then
    uK (fun (st:(List Nat) × Int)=>cA a st.1 st.2) big (l1,x2) >>= fun l6 =>
    e7 x2 (1:Int) >>= fun x12 =>
    some (.go (l6,x12))
  else
    some (.fin l1)
def dy (a:List Nat) (b:Int) (c:Int):Option (List Nat) :=
  e7 b (1:Int) >>= fun x1 =>
  uK (fun (st:(List Nat) × Int)=>cz b c st.1 st.2) big (a,x1) >>= fun l3 =>
  some l3
def dR (a:List Nat) (b:Int) (c:Int):Option (Out Unit ((List Nat) ⊕ Unit)) :=
  ky c b >>= fun x1 =>
  bif decide (x1≤(12:Int)) then
    dy a b c >>= fun r2 =>
    some (.fin (.inl r2))
  else
    none
def gz (a:List Nat) (b:Int) (c:Int) (d:Int):Option (List Nat) :=
  uK (fun (st:Unit)=>dR a b c) big () >>= fun r1=>Jh r1 (fun x=>some x) fun _ =>
  none
def fi (a:List Nat):Option (List Nat) :=
  some (rW ((a.length:Nat):Int)) >>= fun x1 =>
  pR x1 >>= fun r1 =>
  gz a ((0:Nat):Int) ((a.length:Nat):Int) r1 >>= fun r2 =>
  some r2
def fg (a:List Nat) (x1:Int):Option (Out Int Unit) :=
  bif decide (x1 < ((a.length:Nat):Int)) then
    gZ a x1 >>= fun x2 =>
    ky x1 (1:Int) >>= fun x3 =>
    gZ a x3 >>= fun x4 =>
    bif ((x2:Nat):Int) == ((x4:Nat):Int) then
      none
    else
      e7 x1 (1:Int) >>= fun x5 =>
      some (.go x5)
  else
    some (.fin ())
def eK (a:List Nat):Option (List Nat) :=
  bif decide (((a.length:Nat):Int) < (2:Int)) then
    some a
  else
    uK (fun (st:Int)=>fg a st) big ((1:Nat):Int) >>= fun _ =>
    some a
def jE (a:List Nat):Option Bool :=
  cj a >>= fun r1 =>
  fi r1 >>= fun r2 =>
  eK r2 >>= fun r3 =>
  some (((r3.length:Nat):Int) == ((a.length:Nat):Int))
def oc (a:Int) (l1:List Nat):Option (Out (List Nat) (List Nat)) :=
  bif decide (((l1.length:Nat):Int)≤a) then
    cJ 8 l1 ([0]:List Nat) >>= fun l4 =>
    some (.go l4)
  else
    some (.fin l1)
def fQ (a:oJ) (b:Int) (c:Nat):Option (List Nat) :=
  uK (fun (st:(List Nat))=>oc b st) big a.zf >>= fun l3 =>
  gZ l3 b >>= fun x1 =>
  jW a.zp x1 c >>= fun r2 =>
  some (l3.set b.toNat r2) >>= fun l5 =>
  some l5
def sK (a:Nat) (b:List Nat) (k1:Nat) (x2:Nat) (k2:Nat) (l3:List Nat):Option (List Nat) :=
  b[k2]? >>= fun x4 =>
  e7 ((k1:Nat):Int) ((k2:Nat):Int) >>= fun x5 =>
  du a x2 x4 >>= fun r3 =>
  fQ (⟨a,l3⟩:oJ) x5 r3 >>= fun r4 =>
  some r4
def sJ (a:Nat) (b:List Nat) (c:List Nat) (k1:Nat) (l1:List Nat):Option (List Nat) :=
  b[k1]? >>= fun x2 =>
  dw (fun k2 (st:(List Nat))=>sK a c k1 x2 k2 st) (c.length - 0) 0 l1 >>= fun l4 =>
  some l4
def uQ (a:Nat) (b:List Nat) (c:List Nat):Option (List Nat) :=
  dw (fun k1 (st:(List Nat))=>sJ a b c k1 st) (b.length - 0) 0 ([]:List Nat) >>= fun l2 =>
  iK l2 >>= fun r5 =>
  some r5
def i5 (a:Nat) (b:Nat) (c:List Nat) (d:Nat) (e:aI):Option ((List Nat) × Nat) :=
  mf b a >>= fun r1 =>
  uQ b c ([r1,1]:List Nat) >>= fun r2 =>
  oA b e.X a >>= fun r3 =>
  du b d r3 >>= fun r4 =>
  some (r2,r4)
def bP (a:List Nat) (b:Int) (c:Nat) (d:aI) (k1:Nat) (l1:List Nat) (x1:Nat):Option ((List Nat) × Nat) :=
  a[k1]? >>= fun x4 =>
  bif ((k1:Nat):Int) != b then
    i5 x4 c l1 x1 d >>= fun r2 =>
    some (r2.1,r2.2)
  else
    some (l1,x1)
def cE (a:List Nat) (b:Int) (c:Nat) (d:List Nat) (e:Nat) (f:aI):Option ((List Nat) × Nat) :=
  dw (fun k1 (st:(List Nat) × Nat)=>bP a b c f k1 st.1 st.2) (a.length - 0) 0 (d,e) >>= fun (l2,x3) =>
  some (l2,x3)
def lf (a:Nat) (b:Nat) (c:Nat):Option Nat :=
  jX a c >>= fun r1 =>
  du a b r1.1 >>= fun r2 =>
  some r2
def pT (a:Nat) (b:Nat) (c:List Nat) (k1:Nat) (l2:List Nat):Option (List Nat) :=
  c[k1]? >>= fun x2 =>
  du a b x2 >>= fun r2 =>
  l2[k1]? >>= fun x3 =>
  some (l2.set k1 r2) >>= fun l4 =>
  some l4
def qZ (a:Nat) (b:Nat) (c:List Nat):Option (List Nat) :=
  oB 8 ((c.length:Nat):Int) ((c.length:Nat):Int) (0:Nat) >>= fun l1 =>
  dw (fun k1 (st:(List Nat))=>pT a b c k1 st) (c.length - 0) 0 l1 >>= fun l3 =>
  iK l3 >>= fun r3 =>
  some r3
def sH (a:Nat) (b:List Nat) (k1:Nat) (l1:List Nat):Option (List Nat) :=
  b[k1]? >>= fun x2 =>
  fQ (⟨a,l1⟩:oJ) ((k1:Nat):Int) x2 >>= fun r2 =>
  some r2
def sI (a:Nat) (b:List Nat) (k2:Nat) (l3:List Nat):Option (List Nat) :=
  b[k2]? >>= fun x4 =>
  fQ (⟨a,l3⟩:oJ) ((k2:Nat):Int) x4 >>= fun r4 =>
  some r4
def uP (a:Nat) (b:List Nat) (c:List Nat):Option (List Nat) :=
  dw (fun k1 (st:(List Nat))=>sH a b k1 st) (b.length - 0) 0 ([]:List Nat) >>= fun l2 =>
  dw (fun k2 (st:(List Nat))=>sI a c k2 st) (c.length - 0) 0 l2 >>= fun l4 =>
  iK l4 >>= fun r5 =>
  some r5
def iG (a:List aI) (k1:Nat) (l1:List Nat):Option (List Nat) :=
  a[k1]? >>= fun x2 =>
  cJ 8 l1 ([x2.X]:List Nat) >>= fun l3 =>
  some l3
def iH (a:Nat) (b:List aI) (l2:List Nat) (k2:Nat) (l4:List Nat):Option (List Nat) :=
  b[k2]? >>= fun x4 =>
  cE l2 ((k2:Nat):Int) a ([1]:List Nat) 1 x4 >>= fun r4 =>
  lf a x4.Y r4.2 >>= fun r5 =>
  qZ a r5 r4.1 >>= fun r6 =>
  uP a l4 r6 >>= fun r7 =>
  some r7
def gJ (a:Nat) (b:List aI):Option ((List Nat) × Int) :=
  dw (fun k1 (st:(List Nat))=>iG b k1 st) (b.length - 0) 0 ([]:List Nat) >>= fun l2 =>
  jE l2 >>= fun r2 =>
  bif !r2 then
    some (([]:List Nat),((1:Nat):Int))
  else
    dw (fun k2 (st:(List Nat))=>iH a b l2 k2 st) (b.length - 0) 0 ([]:List Nat) >>= fun l5 =>
    iK l5 >>= fun r8 =>
    some (r8,((0:Nat):Int))
def oe (a:List Nat) (b:List (List Nat)) (c:Int) (k1:Nat) (l1:List aI):Option (List aI) :=
  a[k1]? >>= fun x3 =>
  b[k1]? >>= fun x4 =>
  gZ x4 c >>= fun x5 =>
  cJ 16 l1 ([(⟨x3,x5⟩:aI)]:List aI) >>= fun l3 =>
  some l3
def jn (a:Nat) (b:Int) (c:List Nat) (d:List (List Nat)) (e:Int):Option ((List Nat) × Int) :=
  e7 b (1:Int) >>= fun x1 =>
  og (max 0 (x1).toNat) >>= fun u1 =>
  dw (fun k1 (st:(List aI))=>oe c d e k1 st) ((max 0 (x1).toNat) - 0) 0 ([]:List aI) >>= fun l2 =>
  gJ a l2 >>= fun r2 =>
  oB 8 x1 x1 (0:Nat) >>= fun l4 =>
  some (tP l4 r2.1,r2.2)
def iX (a:List (List Nat)) (k1:Nat):Option (Out Unit Bool) :=
  a[k1]? >>= fun x1 =>
  bif ((x1.length:Nat):Int) != ((a.length:Nat):Int) then
    some (.fin false)
  else
    some (.go ())
def iZ (a:List (List Nat)) (k2:Nat) (x2:List Nat) (k3:Nat):Option (Out Unit Bool) :=
  x2[k3]? >>= fun x3 =>
  a[k3]? >>= fun x4 =>
  x4[k2]? >>= fun x5 =>
  bif ((x3:Nat):Int) != ((x5:Nat):Int) then
    some (.fin false)
  else
    some (.go ())
def iY (a:List (List Nat)) (k2:Nat):Option (Out Unit Bool) :=
  a[k2]? >>= fun x2 =>
  og k2 >>= fun u1 =>
  ox (fun k3 (st:Unit)=>iZ a k2 x2 k3) (k2 - 0) 0 () >>= fun r3=>kv r3 (fun x=>some (.fin x)) fun _ =>
  some (.go ())
def iu (a:List (List Nat)):Option Bool :=
  ox (fun k1 (st:Unit)=>iX a k1) (a.length - 0) 0 () >>= fun r1=>kv r1 (fun x=>some x) fun _ =>
  ox (fun k2 (st:Unit)=>iY a k2) (a.length - 0) 0 () >>= fun r2=>kv r2 (fun x=>some x) fun _ =>
  some (decide (((a.length:Nat):Int) > (0:Int)))
def fN (a:List Nat) (b:List Nat) (k1:Nat):Option (Out Unit Bool) :=
  a[k1]? >>= fun x1 =>
  b[k1]? >>= fun x2 =>
  bif ((x1:Nat):Int) != ((x2:Nat):Int) then
    some (.fin false)
  else
    some (.go ())
def e6 (a:List Nat) (b:List Nat):Option Bool :=
  bif ((a.length:Nat):Int) != ((b.length:Nat):Int) then
    some false
  else
    ox (fun k1 (st:Unit)=>fN a b k1) (a.length - 0) 0 () >>= fun r1=>kv r1 (fun x=>some x) fun _ =>
    some true
def iU (r3:(List Nat) × Int) (k2:Nat) (l5:List (List Nat)):Option (List (List Nat)) :=
  l5[k2]? >>= fun x4 =>
  r3.1[k2]? >>= fun x5 =>
  cJ 8 x4 ([x5]:List Nat) >>= fun l7 =>
  some (l5.set k2 l7) >>= fun l8 =>
  some l8
def iT (a:Nat) (b:Int) (c:List Nat) (d:List (List Nat)) (k1:Nat) (l2:List (List Nat)):Option (Out (List (List Nat)) ((List (List Nat)) × Int)) :=
  jn a b c d ((k1:Nat):Int) >>= fun r3 =>
  bif r3.2 != (0:Int) then
    some (.fin (([]:List (List Nat)),((6:Nat):Int)))
  else
    dw (fun k2 (st:(List (List Nat)))=>iU r3 k2 st) (l2.length - 0) 0 l2 >>= fun l6 =>
    some (.go l6)
def iW (a:Nat) (b:List Nat) (c:List (List Nat)) (l3:List (List Nat)) (k3:Nat):Option (Out Unit ((List (List Nat)) × Int)) :=
  b[k3]? >>= fun x6 =>
  fb a l3 x6 >>= fun r7 =>
  c[k3]? >>= fun x7 =>
  e6 r7 x7 >>= fun r8 =>
  bif !r8 then
    some (.fin (([]:List (List Nat)),((6:Nat):Int)))
  else
    some (.go ())
def ir (a:Nat) (b:Int) (c:List Nat) (d:List (List Nat)):Option ((List (List Nat)) × Int) :=
  nr b c d >>= fun r1 =>
  bif !r1 then
    some (([]:List (List Nat)),((1:Nat):Int))
  else
    e7 b (1:Int) >>= fun x1 =>
    oB 24 x1 x1 ([]:List Nat) >>= fun l1 =>
    ox (fun k1 (st:(List (List Nat)))=>iT a b c d k1 st) (l1.length - 0) 0 l1 >>= fun r2=>kv r2 (fun x=>some x) fun l3 =>
    iu l3 >>= fun r5 =>
    bif !r5 then
      some (([]:List (List Nat)),((6:Nat):Int))
    else
      ox (fun k3 (st:Unit)=>iW a c d l3 k3) (c.length - 0) 0 () >>= fun r6=>kv r6 (fun x=>some x) fun _ =>
      some (l3,((0:Nat):Int))
def dD (a:ae) (b:List (List Nat)) (l1:List Nat) (l2:List (List Nat)) (x1:Int):Option (Out ((List Nat) × (List (List Nat)) × Int) ((List Nat) × (List (List Nat)))) :=
  (
    bif decide (x1 < a.S.N) then
      some (decide (x1 < ((b.length:Nat):Int)))
    else
      some false
  ) >>= fun x2 =>
  bif x2 then
    e7 x1 (1:Int) >>= fun x3 =>
    gE a x3 >>= fun r2 =>
    bif r2 then
      some (rW x3) >>= fun x4 =>
      cJ 8 l1 ([x4]:List Nat) >>= fun l7 =>
      gZ b x1 >>= fun x5 =>
      cJ 24 l2 ([x5]:List (List Nat)) >>= fun l8 =>
      some (.go (l7,l8,x3))
    else
      some (.go (l1,l2,x3))
  else
    some (.fin (l1,l2))
def fy (a:ae) (b:List (List Nat)):Option ((List (List Nat)) × Bool) :=
  uK (fun (st:(List Nat) × (List (List Nat)) × Int)=>dD a b st.1 st.2.1 st.2.2) big (([]:List Nat),([]:List (List Nat)),((0:Nat):Int)) >>= fun (l5,l6) =>
  ir a.S.P a.S.T l5 l6 >>= fun r3 =>
  bif r3.2 == (0:Int) then
    e7 a.S.T (1:Int) >>= fun x6 =>
    some (r3.1,((r3.1.length:Nat):Int) == x6)
  else
    some (r3.1,false)
def iC (a:ae) (r6:(List (List (List Nat))) × (List Bool) × Int × (List (List am)) × (List aD)) (k1:Nat):Option (Out Unit Bool) :=
  r6.1[k1]? >>= fun x2 =>
  fy a x2 >>= fun r8 =>
  bif !r8.2 then
    some (.fin false)
  else
    r8.1[0]? >>= fun x3 =>
    x3[0]? >>= fun x4 =>
    bif ((x4:Nat):Int) != (0:Int) then
      some (.fin false)
    else
      some (.go ())
def iD (a:ae) (r6:(List (List (List Nat))) × (List Bool) × Int × (List (List am)) × (List aD)) (k2:Nat):Option (Out Unit Bool) :=
  r6.2.1[k2]? >>= fun x5 =>
  bif x5 then
    e7 ((k2:Nat):Int) (1:Int) >>= fun x6 =>
    gE a x6 >>= fun r10 =>
    bif r10 then
      some (.fin false)
    else
      some (.go ())
  else
    some (.go ())
def fI (a:ae) (b:Int):Option Bool :=
  lZ >>= fun r1 =>
  bif !r1 then
    some false
  else
    ki a b ((2:Nat):Int) >>= fun r2 =>
    bif !r2 then
      some true
    else
      mh a >>= fun r3 =>
      Dq r3 (fun r4 =>
        some false)
      (fun r5 =>
        dt r5 b >>= fun r6 =>
        (
          bif ((r6.1.length:Nat):Int) != b then
            some true
          else
            some (((r6.2.1.length:Nat):Int) != a.S.N)
        ) >>= fun x1 =>
        bif x1 then
          some false
        else
          og (max 0 (b).toNat) >>= fun u1 =>
          ox (fun k1 (st:Unit)=>iC a r6 k1) ((max 0 (b).toNat) - 0) 0 () >>= fun r7=>kv r7 (fun x=>some x) fun _ =>
          og (max 0 (a.S.N).toNat) >>= fun u2 =>
          ox (fun k2 (st:Unit)=>iD a r6 k2) ((max 0 (a.S.N).toNat) - 0) 0 () >>= fun r9=>kv r9 (fun x=>some x) fun _ =>
          some true)
def jg (a:Nat) (x1:Nat) (x2:Nat) (x3:Nat):Option (Out (Nat × Nat × Nat) Nat) :=
  bif decide (((x2:Nat):Int) > (0:Int)) then
    xC x2 2 >>= fun x6 =>
    bif ((x6:Nat):Int) == (1:Int) then
      some (nA x3 x1) >>= fun x7 =>
      xC x7 a >>= fun x8 =>
      some (nA x1 x1) >>= fun x9 =>
      xC x9 a >>= fun x10 =>
      GR x2 2 >>= fun x11 =>
      some (.go (x10,x11,x8))
    else
      some (nA x1 x1) >>= fun x12 =>
      xC x12 a >>= fun x13 =>
      GR x2 2 >>= fun x14 =>
      some (.go (x13,x14,x3))
  else
    some (.fin x3)
def ng (a:Nat) (b:Nat) (c:Nat):Option Nat :=
  uK (fun (st:Nat × Nat × Nat)=>jg a st.1 st.2.1 st.2.2) big (b,c,0) >>= fun x5 =>
  some x5
def nf (a:Nat) (b:Nat) (c:Nat):Option Nat :=
  some (nA b c) >>= fun x1 =>
  xC x1 a >>= fun x2 =>
  some x2
def iw (a:Nat) (b:List Nat) (c:Nat) (x2:Nat) (x3:Int):Option (Out (Nat × Int) Nat) :=
  bif decide (x3 ≥ (0:Int)) then
    ng a x2 c >>= fun r2 =>
    gZ b x3 >>= fun x6 =>
    nf a r2 x6 >>= fun r3 =>
    ky x3 (1:Int) >>= fun x7 =>
    some (.go (r3,x7))
  else
    some (.fin x2)
def ma (a:Nat) (b:List Nat) (c:Nat):Option Nat :=
  ky ((b.length:Nat):Int) (1:Int) >>= fun x1 =>
  uK (fun (st:Nat × Int)=>iw a b c st.1 st.2) big (0,x1) >>= fun x5 =>
  some x5
def lu (a:List (List Nat)) (k1:Nat) (k2:Nat) (l3:List Nat):Option (List Nat) :=
  a[k2]? >>= fun x3 =>
  x3[k1]? >>= fun x4 =>
  cJ 8 l3 ([x4]:List Nat) >>= fun l5 =>
  some l5
def jh (a:Nat) (b:List (List Nat)) (c:Nat) (k1:Nat) (l1:List Nat):Option (List Nat) :=
  dw (fun k2 (st:(List Nat))=>lu b k1 k2 st) (b.length - 0) 0 ([]:List Nat) >>= fun l4 =>
  ma a l4 c >>= fun r3 =>
  cJ 8 l1 ([r3]:List Nat) >>= fun l6 =>
  some l6
def lk (a:Nat) (b:List (List Nat)) (c:Nat):Option (List Nat) :=
  dw (fun k1 (st:(List Nat))=>jh a b c k1 st) (b.length - 0) 0 ([]:List Nat) >>= fun l2 =>
  some l2
def tJ (x6:Int) (k1:Nat) (l2:List (List Nat)):Option (List (List Nat)) :=
  oB 8 x6 x6 (0:Nat) >>= fun l4 =>
  l2[k1]? >>= fun x8 =>
  some (l2.set k1 l4) >>= fun l5 =>
  some l5
def tL (a:List Nat) (x1:Int) (k2:Nat) (l12:List (List Nat)) (x19:Int) (x20:Int):Option (Out ((List (List Nat)) × Int × Int) ((List (List Nat)) × Int)) :=
  (
    bif decide (x20≤x1) then
      some (decide (((k2:Nat):Int) > (0:Int)))
    else
      some false
  ) >>= fun x23 =>
  bif x23 then
    l12[k2]? >>= fun x24 =>
    gZ l12 x20 >>= fun x25 =>
    gZ a x19 >>= fun x26 =>
    gZ x24 x20 >>= fun x27 =>
    some (x24.set x20.toNat x26) >>= fun l15 =>
    some (l12.set k2 l15) >>= fun l16 =>
    x25[k2]? >>= fun x28 =>
    gZ l16 x20 >>= fun x29 =>
    x29[k2]? >>= fun x30 =>
    some (x29.set k2 x26) >>= fun l17 =>
    some (l16.set x20.toNat l17) >>= fun l18 =>
    e7 x19 (1:Int) >>= fun x31 =>
    e7 x20 (1:Int) >>= fun x32 =>
    some (.go (l18,x31,x32))
  else
    some (.fin (l12,x19))
def tK (a:List Nat) (b:List Nat) (x1:Int) (k2:Nat) (l6:List (List Nat)) (x9:Int):Option ((List (List Nat)) × Int) :=
  l6[0]? >>= fun x12 =>
  l6[k2]? >>= fun x13 =>
  a[k2]? >>= fun x14 =>
  x12[k2]? >>= fun x15 =>
  some (x12.set k2 x14) >>= fun l8 =>
  some (l6.set 0 l8) >>= fun l9 =>
  x13[0]? >>= fun x16 =>
  l9[k2]? >>= fun x17 =>
  x17[0]? >>= fun x18 =>
  some (x17.set 0 x14) >>= fun l10 =>
  some (l9.set k2 l10) >>= fun l11 =>
  uK (fun (st:(List (List Nat)) × Int × Int)=>tL b x1 k2 st.1 st.2.1 st.2.2) big (l11,x9,((k2:Nat):Int)) >>= fun (l14,x22) =>
  some (l14,x22)
def jr (a:List Nat) (b:List Nat):Option ((List (List Nat)) × Int) :=
  ky ((a.length:Nat):Int) (1:Int) >>= fun x1 =>
  (
    bif decide (x1 < (0:Int)) then
      some true
    else
      e7 x1 (1:Int) >>= fun x3 =>
      na x1 x3 >>= fun x4 =>
      xz x4 (2:Int) >>= fun x5 =>
      some (((b.length:Nat):Int) != x5)
  ) >>= fun x2 =>
  bif x2 then
    some (([]:List (List Nat)),((1:Nat):Int))
  else
    e7 x1 (1:Int) >>= fun x6 =>
    oB 24 x6 x6 ([]:List Nat) >>= fun l1 =>
    og (max 0 (x1+1).toNat) >>= fun u1 =>
    dw (fun k1 (st:(List (List Nat)))=>tJ x6 k1 st) ((max 0 (x1+1).toNat) - 0) 0 l1 >>= fun l3 =>
    dw (fun k2 (st:(List (List Nat)) × Int)=>tK a b x1 k2 st.1 st.2) ((max 0 (x1+1).toNat) - 0) 0 (l3,((0:Nat):Int)) >>= fun (l7,x11) =>
    some (l7,((0:Nat):Int))
end Pu
