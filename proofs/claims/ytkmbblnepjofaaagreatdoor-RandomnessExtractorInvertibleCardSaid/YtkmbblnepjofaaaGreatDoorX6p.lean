/- Plain functions: what the Go functions compute, over lists and numbers, in Option (none: a run that is not followed). No Go in it. Printed by a program of this claim. -/
import Derived.Test.YtkmbblnepjofaaaGreatDoorWd
set_option linter.unusedVariables false
namespace Pu
open Gw
structure aL where
  P:Nat
  N:Int
  T:Int
structure aF where
  Round:Int
  From:Int
  To:Int
  At:Int
  Kind:Int
  K:Nat
  Of:Int
  a9:Int
structure ac where
  S:aL
  ae:List Int
  aa:List aF
  aE:List (List Nat)
structure ao where
  Round:Int
  From:Int
  ED:List Nat
structure aJ where
  eQ:List Nat
  zat:Int
structure am where
  zw:ac
  az:Int
  aw:List (List ao)
  al:List aJ
structure aH where
  S:List (List (List (List Nat)))
  Rows:List (List (List (List Nat)))
  aW:List (List (List Nat))
structure ak where
  zn:am
  zs:aL
  zq:List (List (List Nat))
  zd:aH
structure ay where
  zn:am
  zp:Nat
  zd:aH
  bl:List (List Bool)
  bz:List (List Bool)
  dc:List (List (List (List Nat)))
structure de where
  e0:Int
  e1:Int
structure ki where
  zl:List Nat
structure b0 where
  Rows:List (List (List (List Nat)))
  jd:List Bool
structure br where
  X:Nat
  Y:Nat
structure lp where
  zp:Nat
  zf:List Nat
structure il where
  zp:Nat
  zm:List (List Nat)
  zpivot:List Int
  zdet:Nat
def kD  : Option ac :=
  some (⟨(⟨31,((4:Nat):Int),((1:Nat):Int)⟩:aL),([]:List Int),([]:List aF),([([1,2,3]:List Nat),([4,5,6]:List Nat),([7,8,9]:List Nat),([10,11,12]:List Nat)]:List (List Nat))⟩:ac)
def qe (a:Nat) (k1:Nat):Option (Out Unit Int) :=
  ([5,7,13,17,19,31,61]:List Int)[k1]? >>= fun x1 =>
  wt 1 x1 >>= fun x2 =>
  some (te x2 1) >>= fun x3 =>
  bif ((a:Nat):Int) == ((x3:Nat):Int) then
    some (.fin x1)
  else
    some (.go ())
def oA (a:Nat):Option Int :=
  mQ 7 >>= fun u1 =>
  nM (fun k1 (st:Unit)=>qe a k1) (7 - 0) 0 () >>= fun r1=>iA r1 (fun x=>some x) fun _ =>
  some ((0:Nat):Int)
def n1 (a:Nat):Option Bool :=
  oA a >>= fun r1 =>
  some (r1 != (0:Int))
def qn (a:aL):Option Bool :=
  n1 a.P >>= fun r1 =>
  bif r1 then
    bif decide (a.N ≥ (4:Int)) then
      bif decide (a.N≤(13:Int)) then
        some (tf a.N) >>= fun x1 =>
        bif decide (((x1:Nat):Int) < ((a.P:Nat):Int)) then
          bif decide (a.T ≥ (1:Int)) then
            bif decide (a.T < a.N) then
              lV (3:Int) a.T >>= fun x2 =>
              some (decide (x2 < a.N))
            else
              some false
          else
            some false
        else
          some false
      else
        some false
    else
      some false
  else
    some false
def mK (a:aL) (b:List Int) (k1:Nat):Option (Out Unit Bool) :=
  b[k1]? >>= fun x2 =>
  bif decide (x2 < (1:Int)) then
    some (.fin false)
  else
    bif decide (x2 > a.N) then
      some (.fin false)
    else
      bif decide (((k1:Nat):Int) > (0:Int)) then
        f5 ((k1:Nat):Int) (1:Int) >>= fun x3 =>
        eV b x3 >>= fun x4 =>
        bif decide (x4 ≥ x2) then
          some (.fin false)
        else
          some (.go ())
      else
        some (.go ())
def jR (a:aL) (b:List Int):Option Bool :=
  (
    qn a >>= fun r1 =>
    bif !r1 then
      some true
    else
      some (decide (((b.length:Nat):Int) > a.T))
  ) >>= fun x1 =>
  bif x1 then
    some false
  else
    nM (fun k1 (st:Unit)=>mK a b k1) (b.length - 0) 0 () >>= fun r2=>iA r2 (fun x=>some x) fun _ =>
    some true
def sI (a:aL) (b:aF):Option Bool :=
  (
    bif b.Kind == (3:Int) then
      some ((1:Nat):Int)
    else
      some ((0:Nat):Int)
  ) >>= fun x1 =>
  bif decide (b.Round ≥ (0:Int)) then
    bif decide (b.At ≥ (0:Int)) then
      bif decide (b.a9 ≥ (0:Int)) then
        bif decide (b.From ≥ (1:Int)) then
          bif decide (b.From≤a.N) then
            bif decide (b.To ≥ (0:Int)) then
              bif decide (b.To≤a.N) then
                bif decide (b.Kind ≥ (1:Int)) then
                  bif decide (b.Kind≤(4:Int)) then
                    bif decide (b.Of ≥ x1) then
                      some (decide (b.Of≤a.N))
                    else
                      some false
                  else
                    some false
                else
                  some false
              else
                some false
            else
              some false
          else
            some false
        else
          some false
      else
        some false
    else
      some false
  else
    some false
def jn (a:aF) (b:ac):Option Bool :=
  sI b.S a >>= fun r1 =>
  some (!r1)
def cR (a:List aF) (b:ac) (k1:Nat):Option (Out Unit Int) :=
  a[k1]? >>= fun x1 =>
  jn x1 b >>= fun r2 =>
  bif r2 then
    some (.fin ((k1:Nat):Int))
  else
    some (.go ())
def bw (a:List aF) (b:ac):Option Int :=
  nM (fun k1 (st:Unit)=>cR a b k1) (a.length - 0) 0 () >>= fun r1=>iA r1 (fun x=>some x) fun _ =>
  some (-1)
def bu (a:List aF) (b:ac):Option Bool :=
  bw a b >>= fun r1 =>
  some (decide (r1 ≥ (0:Int)))
def hO (a:Nat) (b:ac):Option Bool :=
  some (decide (((a:Nat):Int) ≥ ((b.S.P:Nat):Int)))
def dQ (a:List Nat) (b:ac) (k1:Nat):Option (Out Unit Int) :=
  a[k1]? >>= fun x1 =>
  hO x1 b >>= fun r2 =>
  bif r2 then
    some (.fin ((k1:Nat):Int))
  else
    some (.go ())
def cq (a:List Nat) (b:ac):Option Int :=
  nM (fun k1 (st:Unit)=>dQ a b k1) (a.length - 0) 0 () >>= fun r1=>iA r1 (fun x=>some x) fun _ =>
  some (-1)
def bZ (a:List Nat) (b:ac):Option Bool :=
  cq a b >>= fun r1 =>
  some (decide (r1 ≥ (0:Int)))
def jo (a:List Nat) (b:ac):Option Bool :=
  bZ a b >>= fun r1 =>
  some r1
def dP (a:List (List Nat)) (b:ac) (k1:Nat):Option (Out Unit Int) :=
  a[k1]? >>= fun x1 =>
  jo x1 b >>= fun r2 =>
  bif r2 then
    some (.fin ((k1:Nat):Int))
  else
    some (.go ())
def cm (a:List (List Nat)) (b:ac):Option Int :=
  nM (fun k1 (st:Unit)=>dP a b k1) (a.length - 0) 0 () >>= fun r1=>iA r1 (fun x=>some x) fun _ =>
  some (-1)
def bY (a:List (List Nat)) (b:ac):Option Bool :=
  cm a b >>= fun r1 =>
  some (decide (r1 ≥ (0:Int)))
def kC (a:ac):Option Bool :=
  jR a.S a.ae >>= fun r1 =>
  bif !r1 then
    some false
  else
    bif ((a.aE.length:Nat):Int) != a.S.N then
      some false
    else
      bu a.aa a >>= fun r2 =>
      bif r2 then
        some false
      else
        bY a.aE a >>= fun r3 =>
        some (!r3)
def vK (a:List Nat):Option aJ :=
  some (⟨a,((0:Nat):Int)⟩:aJ)
def sF (a:ac) (k1:Nat) (l2:List aJ):Option (List aJ) :=
  a.aE[k1]? >>= fun x2 =>
  vK x2 >>= fun r3 =>
  cY 8 l2 ([r3]:List aJ) >>= fun l4 =>
  some l4
def rt (a:ac):Option (Unit ⊕ am) :=
  kC a >>= fun r1 =>
  bif !r1 then
    some (.inl ())
  else
    og 24 a.S.N a.S.N ([]:List ao) >>= fun l1 =>
    ea (fun k1 (st:(List aJ))=>sF a k1 st) (a.aE.length - 0) 0 ([]:List aJ) >>= fun l3 =>
    some (.inr (⟨a,((0:Nat):Int),l1,l3⟩:am))
def cI (a:am):Option ac :=
  some a.zw
def iD (a:aL) (b:Int):Option Int :=
  dY b a.N >>= fun x1 =>
  f5 x1 a.T >>= fun x2 =>
  f5 x2 (1:Int) >>= fun x3 =>
  f5 a.N a.T >>= fun x4 =>
  vZ x3 x4 >>= fun x5 =>
  some x5
def gM (a:am) (b:Int):Option Nat :=
  f5 b (1:Int) >>= fun x1 =>
  eV a.al x1 >>= fun x2 =>
  some x1.toNat
def gX (a:aJ):Option Int :=
  f5 ((a.eQ.length:Nat):Int) a.zat >>= fun x1 =>
  some x1
def lN (a:aJ) (b:Int):Option ((List Nat) × Int × Int) :=
  (
    bif decide (b < (0:Int)) then
      some true
    else
      gX a >>= fun r1 =>
      some (decide (b > r1))
  ) >>= fun x1 =>
  bif x1 then
    some (([]:List Nat),((10:Nat):Int),a.zat)
  else
    dY a.zat b >>= fun x2 =>
    nB a.eQ a.zat x2 >>= fun l1 =>
    some (l1,((0:Nat):Int),x2)
def qM (a:List Nat) (k1:Nat) (l2:List (List Nat)):Option (List (List Nat)) :=
  og 8 ((a.length:Nat):Int) ((a.length:Nat):Int) (0:Nat) >>= fun l4 =>
  l2[k1]? >>= fun x6 =>
  some (l2.set k1 l4) >>= fun l5 =>
  some l5
def qN (a:List Nat) (k2:Nat) (l6:List (List Nat)):Option (List (List Nat)) :=
  a[k2]? >>= fun x8 =>
  l6[0]? >>= fun x9 =>
  l6[k2]? >>= fun x10 =>
  x9[k2]? >>= fun x11 =>
  some (x9.set k2 x8) >>= fun l8 =>
  some (l6.set 0 l8) >>= fun l9 =>
  x10[0]? >>= fun x12 =>
  l9[k2]? >>= fun x13 =>
  x13[0]? >>= fun x14 =>
  some (x13.set 0 x8) >>= fun l10 =>
  some (l9.set k2 l10) >>= fun l11 =>
  some l11
def jW (a:List Nat) (k3:Nat) (l16:List Nat) (l17:List (List Nat)) (x16:Int):Option (Out ((List Nat) × (List (List Nat)) × Int) ((List Nat) × (List (List Nat)))) :=
  bif decide (x16 < ((a.length:Nat):Int)) then
    l17[k3]? >>= fun x17 =>
    eV l17 x16 >>= fun x18 =>
    l16[0]? >>= fun x19 =>
    eV x17 x16 >>= fun x20 =>
    some (x17.set x16.toNat x19) >>= fun l22 =>
    some (l17.set k3 l22) >>= fun l23 =>
    x18[k3]? >>= fun x21 =>
    eV l23 x16 >>= fun x22 =>
    x22[k3]? >>= fun x23 =>
    some (x22.set k3 x19) >>= fun l24 =>
    some (l23.set x16.toNat l24) >>= fun l25 =>
    nB l16 (1:Int) ((l16.length:Nat):Int) >>= fun l26 =>
    dY x16 (1:Int) >>= fun x24 =>
    some (.go (l26,l25,x24))
  else
    some (.fin (l16,l17))
def jV (a:List Nat) (k3:Nat) (l12:List Nat) (l13:List (List Nat)):Option ((List Nat) × (List (List Nat))) :=
  qE (fun (st:(List Nat) × (List (List Nat)) × Int)=>jW a k3 st.1 st.2.1 st.2.2) big (l12,l13,((k3:Nat):Int)) >>= fun (l20,l21) =>
  some (l20,l21)
def pC (a:List Nat) (b:List Nat):Option ((List (List Nat)) × Int) :=
  (
    bif ((a.length:Nat):Int) == (0:Int) then
      some true
    else
      f5 ((a.length:Nat):Int) (1:Int) >>= fun x2 =>
      lV ((a.length:Nat):Int) x2 >>= fun x3 =>
      vZ x3 (2:Int) >>= fun x4 =>
      some (((b.length:Nat):Int) != x4)
  ) >>= fun x1 =>
  bif x1 then
    some (([]:List (List Nat)),((1:Nat):Int))
  else
    og 24 ((a.length:Nat):Int) ((a.length:Nat):Int) ([]:List Nat) >>= fun l1 =>
    ea (fun k1 (st:(List (List Nat)))=>qM a k1 st) (l1.length - 0) 0 l1 >>= fun l3 =>
    ea (fun k2 (st:(List (List Nat)))=>qN a k2 st) (a.length - 0) 0 l3 >>= fun l7 =>
    mQ (max 1 (((a.length:Nat):Int)).toNat) >>= fun u1 =>
    ea (fun k3 (st:(List Nat) × (List (List Nat)))=>jV a k3 st.1 st.2) ((max 1 (((a.length:Nat):Int)).toNat) - 1) 1 (b,l7) >>= fun (l14,l15) =>
    some (l15,((0:Nat):Int))
def eZ (a:Int) (b:ak) (x1:List (List Nat)) (k1:Nat) (l1:List aJ) (l2:List (List (List (List Nat)))):Option ((List aJ) × (List (List (List (List Nat))))) :=
  x1[k1]? >>= fun x3 =>
  dY a (1:Int) >>= fun x4 =>
  gM (⟨b.zn.zw,b.zn.az,b.zn.aw,l1⟩:am) x4 >>= fun r2 =>
  dY b.zs.T (1:Int) >>= fun x5 =>
  lV b.zs.T x5 >>= fun x6 =>
  vZ x6 (2:Int) >>= fun x7 =>
  l1[r2]? >>= fun x8 =>
  lN x8 x7 >>= fun r3 =>
  some (l1.set r2 (⟨x8.eQ,r3.2.2⟩:aJ)) >>= fun l5 =>
  pC x3 r3.1 >>= fun r4 =>
  eV l2 a >>= fun x9 =>
  cY 24 x9 ([r4.1]:List (List (List Nat))) >>= fun l6 =>
  some (l2.set a.toNat l6) >>= fun l7 =>
  some (l5,l7)
def jG (a:Int) (b:ak):Option ((List aJ) × aH) :=
  eV b.zq a >>= fun x1 =>
  ea (fun k1 (st:(List aJ) × (List (List (List (List Nat)))))=>eZ a b x1 k1 st.1 st.2) (x1.length - 0) 0 (b.zn.al,b.zd.S) >>= fun (l3,l4) =>
  some (l3,(⟨l4,b.zd.Rows,b.zd.aW⟩:aH))
def bP (a:ak) (k1:Nat) (l1:List aJ) (l2:List (List (List (List Nat)))) (l3:List (List (List (List Nat)))) (l4:List (List (List Nat))):Option ((List aJ) × (List (List (List (List Nat)))) × (List (List (List (List Nat)))) × (List (List (List Nat)))) :=
  jG ((k1:Nat):Int) (⟨(⟨a.zn.zw,a.zn.az,a.zn.aw,l1⟩:am),a.zs,a.zq,(⟨l2,l3,l4⟩:aH)⟩:ak) >>= fun r2 =>
  some (r2.1,r2.2.S,r2.2.Rows,r2.2.aW)
def dh (a:ak):Option ((List aJ) × aH) :=
  mQ (max 0 (a.zs.N).toNat) >>= fun u1 =>
  ea (fun k1 (st:(List aJ) × (List (List (List (List Nat)))) × (List (List (List (List Nat)))) × (List (List (List Nat))))=>bP a k1 st.1 st.2.1 st.2.2.1 st.2.2.2) ((max 0 (a.zs.N).toNat) - 0) 0 (a.zn.al,a.zd.S,a.zd.Rows,a.zd.aW) >>= fun (l5,l6,l7,l8) =>
  some (l5,(⟨l6,l7,l8⟩:aH))
def kG (a:ak):Option ((List aJ) × aH) :=
  dh a >>= fun r1 =>
  some (r1.1,r1.2)
def io (a:Nat) (b:Nat):Option (Nat × Nat) :=
  some (rz a 4294967295) >>= fun x1 =>
  pY a (32:Int) >>= fun x2 =>
  some (rz b 4294967295) >>= fun x3 =>
  pY b (32:Int) >>= fun x4 =>
  some (rM x1 x3) >>= fun x5 =>
  some (rM x2 x3) >>= fun x6 =>
  pY x5 (32:Int) >>= fun x7 =>
  some (nv x6 x7) >>= fun x8 =>
  some (rz x8 4294967295) >>= fun x9 =>
  pY x8 (32:Int) >>= fun x10 =>
  some (rM x1 x4) >>= fun x11 =>
  some (nv x9 x11) >>= fun x12 =>
  some (rM x2 x4) >>= fun x13 =>
  some (nv x13 x10) >>= fun x14 =>
  pY x12 (32:Int) >>= fun x15 =>
  some (nv x14 x15) >>= fun x16 =>
  some (rM a b) >>= fun x17 =>
  some (x16,x17)
def kU (a:Nat):Option Int :=
  bif a == 31 then
    some ((5:Nat):Int)
  else
    bif a == 127 then
      some ((7:Nat):Int)
    else
      bif a == 8191 then
        some ((13:Nat):Int)
      else
        bif a == 131071 then
          some ((17:Nat):Int)
        else
          bif a == 524287 then
            some ((19:Nat):Int)
          else
            bif a == 2147483647 then
              some ((31:Nat):Int)
            else
              bif a == 2305843009213693951 then
                some ((61:Nat):Int)
              else
                bif a == 1 then
                  some ((1:Nat):Int)
                else
                  bif a == 2 then
                    some ((2:Nat):Int)
                  else
                    bif a == 3 then
                      some ((2:Nat):Int)
                    else
                      bif a == 4 then
                        some ((3:Nat):Int)
                      else
                        bif a == 5 then
                          some ((3:Nat):Int)
                        else
                          bif a == 6 then
                            some ((3:Nat):Int)
                          else
                            bif a == 7 then
                              some ((3:Nat):Int)
                            else
                              bif a == 8 then
                                some ((4:Nat):Int)
                              else
                                bif a == 9 then
                                  some ((4:Nat):Int)
                                else
                                  bif a == 10 then
                                    some ((4:Nat):Int)
                                  else
                                    bif a == 11 then
                                      some ((4:Nat):Int)
                                    else
                                      bif a == 12 then
                                        some ((4:Nat):Int)
                                      else
                                        bif a == 13 then
                                          some ((4:Nat):Int)
                                        else
                                          none
def oB (a:Nat):Option Nat :=
  kU a >>= fun r1 =>
  some (tf r1) >>= fun x1 =>
  some x1
def eB (a:Nat) (r1:Nat) (x1:Nat) (x2:Nat):Option (Out (Nat × Nat) Nat) :=
  (
    bif ((x1:Nat):Int) != (0:Int) then
      some true
    else
      some (decide (((x2:Nat):Int) > ((a:Nat):Int)))
  ) >>= fun x5 =>
  bif x5 then
    some (rz x2 a) >>= fun x6 =>
    pY x2 ((r1:Nat):Int) >>= fun x7 =>
    some (te 64 r1) >>= fun x8 =>
    wt x1 ((x8:Nat):Int) >>= fun x9 =>
    some (EY x7 x9) >>= fun x10 =>
    pY x1 ((r1:Nat):Int) >>= fun x11 =>
    some (nv x10 x6) >>= fun x12 =>
    some (Ap x10 x6) >>= fun x13 =>
    some (nv x11 x13) >>= fun x14 =>
    some (.go (x14,x12))
  else
    some (.fin x2)
def j5 (a:Nat) (b:Nat) (c:Nat):Option Nat :=
  oB a >>= fun r1 =>
  qE (fun (st:Nat × Nat)=>eB a r1 st.1 st.2) big (b,c) >>= fun x4 =>
  bif ((x4:Nat):Int) == ((a:Nat):Int) then
    some 0
  else
    some x4
def cC (a:Nat) (b:Nat) (c:Nat):Option Nat :=
  io b c >>= fun r1 =>
  j5 a r1.1 r1.2 >>= fun r2 =>
  some r2
def fX (a:Nat) (b:Nat) (c:Nat):Option Nat :=
  some (nv b c) >>= fun x1 =>
  j5 a 0 x1 >>= fun r1 =>
  some r1
def qO (a:Nat) (x1:Nat) (x4:List Nat) (k2:Nat) (l4:List Nat):Option (List Nat) :=
  x4[k2]? >>= fun x6 =>
  l4[k2]? >>= fun x7 =>
  cC a x6 x1 >>= fun r3 =>
  fX a x7 r3 >>= fun r4 =>
  some (l4.set k2 r4) >>= fun l6 =>
  some l6
def jX (a:Nat) (b:List (List Nat)) (c:Nat) (k1:Nat) (l2:List Nat) (x1:Nat):Option ((List Nat) × Nat) :=
  b[k1]? >>= fun x4 =>
  ea (fun k2 (st:(List Nat))=>qO a x1 x4 k2 st) (x4.length - 0) 0 l2 >>= fun l5 =>
  cC a x1 c >>= fun r5 =>
  some (l5,r5)
def gY (a:Nat) (b:List (List Nat)) (c:Nat):Option (List Nat) :=
  og 8 ((b.length:Nat):Int) ((b.length:Nat):Int) (0:Nat) >>= fun l1 =>
  ea (fun k1 (st:(List Nat) × Nat)=>jX a b c k1 st.1 st.2) (b.length - 0) 0 (l1,1) >>= fun (l3,x3) =>
  some l3
def kI (a:ak) (k1:Nat) (x2:List (List (List Nat))) (k2:Nat) (l3:List Nat):Option (List Nat) :=
  x2[k2]? >>= fun x4 =>
  some (tf ((k1:Nat):Int)) >>= fun x5 =>
  gY a.zs.P x4 x5 >>= fun r3 =>
  cY 8 l3 r3 >>= fun l5 =>
  some l5
def kH (a:Int) (b:ak) (k1:Nat) (l1:List (List (List Nat))):Option (List (List (List Nat))) :=
  eV b.zd.S a >>= fun x2 =>
  mQ x2.length >>= fun u2 =>
  ea (fun k2 (st:(List Nat))=>kI b k1 x2 k2 st) (x2.length - 0) 0 ([]:List Nat) >>= fun l4 =>
  eV l1 a >>= fun x6 =>
  cY 24 x6 ([l4]:List (List Nat)) >>= fun l6 =>
  some (l1.set a.toNat l6) >>= fun l7 =>
  some l7
def gF (a:Int) (b:ak) (c:List (List (List Nat))):Option (List (List (List Nat))) :=
  mQ (max 1 (b.zs.N+1).toNat) >>= fun u1 =>
  ea (fun k1 (st:(List (List (List Nat))))=>kH a b k1 st) ((max 1 (b.zs.N+1).toNat) - 1) 1 c >>= fun l2 =>
  some l2
def eI (a:ak) (k1:Nat) (l1:List (List (List Nat))):Option (List (List (List Nat))) :=
  gF ((k1:Nat):Int) a l1 >>= fun r2 =>
  some r2
def cS (a:ak) (b:List (List (List Nat))):Option (List (List (List Nat))) :=
  mQ (max 0 (a.zs.N).toNat) >>= fun u1 =>
  ea (fun k1 (st:(List (List (List Nat))))=>eI a k1 st) ((max 0 (a.zs.N).toNat) - 0) 0 b >>= fun l2 =>
  some l2
def bg (a:List (List Nat)):Option (List (List Nat)) :=
  cY 24 ([]:List (List Nat)) a >>= fun l1 =>
  some l1
def mM (a:List Int) (b:Int) (k1:Nat):Option (Out Unit Int) :=
  a[k1]? >>= fun x1 =>
  bif b == x1 then
    some (.fin ((k1:Nat):Int))
  else
    some (.go ())
def jS (a:List Int) (b:Int):Option Int :=
  nM (fun k1 (st:Unit)=>mM a b k1) (a.length - 0) 0 () >>= fun r1=>iA r1 (fun x=>some x) fun _ =>
  some (-1)
def fi (a:List Int) (b:Int):Option Bool :=
  jS a b >>= fun r1 =>
  some (decide (r1 ≥ (0:Int)))
def lq (a:ac) (b:aF) (c:Int):Option Bool :=
  bif b.Round == c then
    fi a.ae b.From >>= fun r1 =>
    some r1
  else
    some false
def qf (a:Nat) (b:Nat):Option Nat :=
  j5 a 0 b >>= fun r1 =>
  some r1
def bj (a:List Nat):Option (List Nat) :=
  cY 8 ([]:List Nat) a >>= fun l1 =>
  some l1
def ol (a:List Nat) (b:Int):Option Nat :=
  bif decide (b < (0:Int)) then
    some 0
  else
    bif decide (b ≥ ((a.length:Nat):Int)) then
      some 0
    else
      eV a b >>= fun x1 =>
      some x1
def lr (a:ac) (b:aF) (c:List Nat) (d:List Nat):Option (List Nat) :=
  bif b.Kind == (4:Int) then
    some ([]:List Nat)
  else
    bif decide (b.At ≥ ((c.length:Nat):Int)) then
      some c
    else
      qf a.S.P b.K >>= fun r1 =>
      bj c >>= fun r2 =>
      bif b.Kind == (1:Int) then
        eV r2 b.At >>= fun x1 =>
        some (r2.set b.At.toNat r1) >>= fun l1 =>
        some l1
      else
        bif b.Kind == (2:Int) then
          eV r2 b.At >>= fun x2 =>
          fX a.S.P x2 r1 >>= fun r3 =>
          some (r2.set b.At.toNat r3) >>= fun l2 =>
          some l2
        else
          bif b.Kind == (3:Int) then
            fi a.ae b.Of >>= fun r4 =>
            (
              bif !r4 then
                ol d b.a9 >>= fun r5 =>
                some r5
              else
                some 0
            ) >>= fun x3 =>
            eV r2 b.At >>= fun x4 =>
            cC a.S.P r1 x3 >>= fun r6 =>
            fX a.S.P x4 r6 >>= fun r7 =>
            some (r2.set b.At.toNat r7) >>= fun l3 =>
            some l3
          else
            some r2
def kM (a:List (List (List Nat))) (k1:Nat) (l2:List (List (List Nat))):Option (List (List (List Nat))) :=
  a[k1]? >>= fun x2 =>
  bg x2 >>= fun r2 =>
  l2[k1]? >>= fun x3 =>
  some (l2.set k1 r2) >>= fun l4 =>
  some l4
def kO (a:ac) (x5:aF) (l7:List Nat) (x10:Int) (k3:Nat) (l8:List (List (List Nat))):Option (List (List (List Nat))) :=
  (
    dY ((k3:Nat):Int) (1:Int) >>= fun x14 =>
    bif x14 != x5.From then
      bif x5.To == (0:Int) then
        some true
      else
        some (x5.To == x14)
    else
      some false
  ) >>= fun x13 =>
  bif x13 then
    eV l8 x10 >>= fun x15 =>
    x15[k3]? >>= fun x16 =>
    lr a x5 x16 l7 >>= fun r6 =>
    some (x15.set k3 r6) >>= fun l10 =>
    some (l8.set x10.toNat l10) >>= fun l11 =>
    some l11
  else
    some l8
def kN (a:ac) (b:Int) (c:List (List (List Nat))) (k2:Nat) (l5:List (List (List Nat))):Option (List (List (List Nat))) :=
  a.aa[k2]? >>= fun x5 =>
  lq a x5 b >>= fun r4 =>
  bif !r4 then
    some l5
  else
    (
      bif x5.Kind == (3:Int) then
        f5 x5.Of (1:Int) >>= fun x6 =>
        eV c x6 >>= fun x7 =>
        f5 x5.From (1:Int) >>= fun x8 =>
        eV x7 x8 >>= fun x9 =>
        some x9
      else
        some ([]:List Nat)
    ) >>= fun l7 =>
    f5 x5.From (1:Int) >>= fun x10 =>
    eV l5 x10 >>= fun x11 =>
    mQ x11.length >>= fun u1 =>
    ea (fun k3 (st:(List (List (List Nat))))=>kO a x5 l7 x10 k3 st) (x11.length - 0) 0 l5 >>= fun l9 =>
    some l9
def gO (a:ac) (b:Int) (c:List (List (List Nat))):Option (List (List (List Nat))) :=
  og 24 ((c.length:Nat):Int) ((c.length:Nat):Int) ([]:List (List Nat)) >>= fun l1 =>
  ea (fun k1 (st:(List (List (List Nat))))=>kM c k1 st) (c.length - 0) 0 l1 >>= fun l3 =>
  ea (fun k2 (st:(List (List (List Nat))))=>kN a b c k2 st) (a.aa.length - 0) 0 l3 >>= fun l6 =>
  some l6
def j9 (a:am) (b:Int) (c:Int) (d:List Nat):Option (List (List ao)) :=
  (
    bif b != c then
      some (decide (((d.length:Nat):Int) > (0:Int)))
    else
      some false
  ) >>= fun x1 =>
  bif x1 then
    eV a.aw b >>= fun x2 =>
    dY c (1:Int) >>= fun x3 =>
    cY 8 ([]:List Nat) d >>= fun l1 =>
    cY 40 x2 ([(⟨a.az,x3,l1⟩:ao)]:List ao) >>= fun l2 =>
    some (a.aw.set b.toNat l2) >>= fun l3 =>
    some l3
  else
    some a.aw
def gU (a:am) (r1:(List (List (List Nat)))) (k1:Nat) (k2:Nat) (l6:List (List ao)) (l7:List (List (List Nat))):Option ((List (List ao)) × (List (List (List Nat)))) :=
  r1[k2]? >>= fun x3 =>
  x3[k1]? >>= fun x4 =>
  cY 8 ([]:List Nat) x4 >>= fun l10 =>
  l7[k1]? >>= fun x5 =>
  cY 24 x5 ([l10]:List (List Nat)) >>= fun l11 =>
  some (l7.set k1 l11) >>= fun l12 =>
  j9 (⟨a.zw,a.az,l6,a.al⟩:am) ((k1:Nat):Int) ((k2:Nat):Int) l10 >>= fun r4 =>
  some (r4,l12)
def gT (a:am) (r1:(List (List (List Nat)))) (k1:Nat) (l2:List (List ao)) (l3:List (List (List Nat))):Option ((List (List ao)) × (List (List (List Nat)))) :=
  mQ (max 0 (a.zw.S.N).toNat) >>= fun u1 =>
  ea (fun k2 (st:(List (List ao)) × (List (List (List Nat))))=>gU a r1 k1 k2 st.1 st.2) ((max 0 (a.zw.S.N).toNat) - 0) 0 (l2,l3) >>= fun (l8,l9) =>
  some (l8,l9)
def j8 (a:am) (b:List (List (List Nat))):Option ((List (List (List Nat))) × Int × (List (List ao))) :=
  gO a.zw a.az b >>= fun r1 =>
  og 24 a.zw.S.N a.zw.S.N ([]:List (List Nat)) >>= fun l1 =>
  ea (fun k1 (st:(List (List ao)) × (List (List (List Nat))))=>gT a r1 k1 st.1 st.2) (l1.length - 0) 0 (a.aw,l1) >>= fun (l4,l5) =>
  dY a.az (1:Int) >>= fun x6 =>
  some (l5,x6,l4)
def eM (a:List Nat) (b:Int):Option (List Nat) :=
  og 8 b b (0:Nat) >>= fun l1 =>
  some (uZ l1 a)
def kK (a:Int) (r2:(List Nat)) (k2:Nat) (l3:List (List Nat)):Option (List (List Nat)) :=
  lV ((k2:Nat):Int) a >>= fun x7 =>
  dY ((k2:Nat):Int) (1:Int) >>= fun x8 =>
  lV x8 a >>= fun x9 =>
  nB r2 x7 x9 >>= fun l5 =>
  cY 24 l3 ([l5]:List (List Nat)) >>= fun l6 =>
  some l6
def kJ (a:Int) (b:ak) (c:List (List (List Nat))) (d:Int) (k1:Nat) (l1:List (List (List (List Nat)))):Option (List (List (List (List Nat)))) :=
  b.zq[k1]? >>= fun x2 =>
  eV c a >>= fun x3 =>
  x3[k1]? >>= fun x4 =>
  lV ((x2.length:Nat):Int) d >>= fun x5 =>
  eM x4 x5 >>= fun r2 =>
  ea (fun k2 (st:(List (List Nat)))=>kK d r2 k2 st) (x2.length - 0) 0 ([]:List (List Nat)) >>= fun l4 =>
  eV l1 a >>= fun x10 =>
  cY 24 x10 ([l4]:List (List (List Nat))) >>= fun l7 =>
  some (l1.set a.toNat l7) >>= fun l8 =>
  some l8
def gG (a:Int) (b:ak) (c:List (List (List Nat))) (d:Int):Option aH :=
  ea (fun k1 (st:(List (List (List (List Nat)))))=>kJ a b c d k1 st) (b.zq.length - 0) 0 b.zd.Rows >>= fun l2 =>
  some (⟨b.zd.S,l2,b.zd.aW⟩:aH)
def bD (a:ak) (b:List (List (List Nat))) (c:Int) (k1:Nat) (l1:List (List (List (List Nat)))) (l2:List (List (List (List Nat)))) (l3:List (List (List Nat))):Option ((List (List (List (List Nat)))) × (List (List (List (List Nat)))) × (List (List (List Nat)))) :=
  gG ((k1:Nat):Int) (⟨a.zn,a.zs,a.zq,(⟨l1,l2,l3⟩:aH)⟩:ak) b c >>= fun r2 =>
  some (r2.S,r2.Rows,r2.aW)
def cU (a:ak) (b:List (List (List Nat))) (c:Int):Option aH :=
  mQ (max 0 (a.zs.N).toNat) >>= fun u1 =>
  ea (fun k1 (st:(List (List (List (List Nat)))) × (List (List (List (List Nat)))) × (List (List (List Nat))))=>bD a b c k1 st.1 st.2.1 st.2.2) ((max 0 (a.zs.N).toNat) - 0) 0 (a.zd.S,a.zd.Rows,a.zd.aW) >>= fun (l4,l5,l6) =>
  some (⟨l4,l5,l6⟩:aH)
def ik (a:ak):Option (Int × (List (List ao)) × aH) :=
  dY a.zs.T (1:Int) >>= fun x1 =>
  og 24 a.zs.N a.zs.N ([]:List (List Nat)) >>= fun l1 =>
  cS a l1 >>= fun r1 =>
  j8 a.zn r1 >>= fun r2 =>
  cU (⟨(⟨a.zn.zw,r2.2.1,r2.2.2,a.zn.al⟩:am),a.zs,a.zq,a.zd⟩:ak) r2.1 x1 >>= fun r3 =>
  some (r2.2.1,r2.2.2,r3)
def nK (a:Nat) (b:List Nat) (c:Nat) (x2:Nat) (x3:Int):Option (Out (Nat × Int) Nat) :=
  bif decide (x3 ≥ (0:Int)) then
    cC a x2 c >>= fun r2 =>
    eV b x3 >>= fun x6 =>
    fX a r2 x6 >>= fun r3 =>
    f5 x3 (1:Int) >>= fun x7 =>
    some (.go (r3,x7))
  else
    some (.fin x2)
def ll (a:Nat) (b:List Nat) (c:Nat):Option Nat :=
  f5 ((b.length:Nat):Int) (1:Int) >>= fun x1 =>
  qE (fun (st:Nat × Int)=>nK a b c st.1 st.2) big (0,x1) >>= fun x5 =>
  some x5
def nr (a:ak) (b:Int) (x3:List (List Nat)) (k2:Nat) (l3:List Nat):Option (List Nat) :=
  x3[k2]? >>= fun x5 =>
  some (tf b) >>= fun x6 =>
  ll a.zs.P x5 x6 >>= fun r3 =>
  cY 8 l3 ([r3]:List Nat) >>= fun l5 =>
  some l5
def nq (a:ak) (b:Int) (x1:List (List (List Nat))) (k1:Nat) (l1:List Nat):Option (List Nat) :=
  x1[k1]? >>= fun x3 =>
  ea (fun k2 (st:(List Nat))=>nr a b x3 k2 st) (x3.length - 0) 0 l1 >>= fun l4 =>
  some l4
def gH (a:ak) (b:Int) (c:Int):Option (List Nat) :=
  eV a.zd.Rows b >>= fun x1 =>
  mQ x1.length >>= fun u1 =>
  ea (fun k1 (st:(List Nat))=>nq a c x1 k1 st) (x1.length - 0) 0 ([]:List Nat) >>= fun l2 =>
  some l2
def lR (a:Int) (b:ak) (k1:Nat) (l1:List (List (List Nat))):Option (List (List (List Nat))) :=
  eV l1 a >>= fun x2 =>
  gH b a ((k1:Nat):Int) >>= fun r2 =>
  cY 24 x2 ([r2]:List (List Nat)) >>= fun l3 =>
  some (l1.set a.toNat l3) >>= fun l4 =>
  some l4
def iM (a:Int) (b:ak) (c:List (List (List Nat))):Option (List (List (List Nat))) :=
  mQ (max 1 (b.zs.N+1).toNat) >>= fun u1 =>
  ea (fun k1 (st:(List (List (List Nat))))=>lR a b k1 st) ((max 1 (b.zs.N+1).toNat) - 1) 1 c >>= fun l2 =>
  some l2
def e5 (a:ak) (k1:Nat) (l1:List (List (List Nat))):Option (List (List (List Nat))) :=
  iM ((k1:Nat):Int) a l1 >>= fun r2 =>
  some r2
def db (a:ak) (b:List (List (List Nat))):Option (List (List (List Nat))) :=
  mQ (max 0 (a.zs.N).toNat) >>= fun u1 =>
  ea (fun k1 (st:(List (List (List Nat))))=>e5 a k1 st) ((max 0 (a.zs.N).toNat) - 0) 0 b >>= fun l2 =>
  some l2
def jT (a:ak):Option ((List (List (List Nat))) × Int × (List (List ao))) :=
  og 24 a.zs.N a.zs.N ([]:List (List Nat)) >>= fun l1 =>
  db a l1 >>= fun r1 =>
  j8 a.zn r1 >>= fun r2 =>
  some (r2.1,r2.2.1,r2.2.2)
def fS (a:ak) (k1:Nat) (r2:(List Nat)) (r3:(List Nat)) (k2:Nat) (k3:Nat) (l6:List Nat) (x9:Int):Option ((List Nat) × Int) :=
  eV r3 x9 >>= fun x12 =>
  eV r2 x9 >>= fun x13 =>
  bif ((x12:Nat):Int) != ((x13:Nat):Int) then
    lV ((k2:Nat):Int) a.zs.N >>= fun x14 =>
    dY x14 ((k1:Nat):Int) >>= fun x15 =>
    eV l6 x15 >>= fun x16 =>
    some (l6.set x15.toNat 1) >>= fun l8 =>
    dY x9 (1:Int) >>= fun x17 =>
    some (l8,x17)
  else
    dY x9 (1:Int) >>= fun x18 =>
    some (l6,x18)
def fR (a:ak) (k1:Nat) (r2:(List Nat)) (r3:(List Nat)) (k2:Nat) (l4:List Nat) (x5:Int):Option ((List Nat) × Int) :=
  a.zq[k2]? >>= fun x8 =>
  ea (fun k3 (st:(List Nat) × Int)=>fS a k1 r2 r3 k2 k3 st.1 st.2) (x8.length - 0) 0 (l4,x5) >>= fun (l7,x11) =>
  some (l7,x11)
def nU (a:ak) (b:Int) (c:List (List Nat)) (k1:Nat) (l2:List Nat):Option (List Nat) :=
  bif ((k1:Nat):Int) == b then
    some l2
  else
    dY ((k1:Nat):Int) (1:Int) >>= fun x3 =>
    gH a b x3 >>= fun r2 =>
    c[k1]? >>= fun x4 =>
    eM x4 ((r2.length:Nat):Int) >>= fun r3 =>
    ea (fun k2 (st:(List Nat) × Int)=>fR a k1 r2 r3 k2 st.1 st.2) (a.zq.length - 0) 0 (l2,((0:Nat):Int)) >>= fun (l5,x7) =>
    some l5
def k9 (a:ak) (b:Int) (c:List (List Nat)):Option (List Nat) :=
  lV a.zs.N a.zs.N >>= fun x1 =>
  og 8 x1 x1 (0:Nat) >>= fun l1 =>
  mQ (max 0 (a.zs.N).toNat) >>= fun u1 =>
  ea (fun k1 (st:(List Nat))=>nU a b c k1 st) ((max 0 (a.zs.N).toNat) - 0) 0 l1 >>= fun l3 =>
  some l3
def ie (a:Int) (b:ak) (c:List (List (List Nat))) (d:List (List Nat)):Option (List (List Nat)) :=
  eV c a >>= fun x1 =>
  k9 b a x1 >>= fun r1 =>
  eV d a >>= fun x2 =>
  some (d.set a.toNat r1) >>= fun l1 =>
  some l1
def eU (a:ak) (b:List (List (List Nat))) (k1:Nat) (l1:List (List Nat)):Option (List (List Nat)) :=
  ie ((k1:Nat):Int) a b l1 >>= fun r2 =>
  some r2
def c9 (a:ak) (b:List (List (List Nat))) (c:List (List Nat)):Option (List (List Nat)) :=
  mQ (max 0 (a.zs.N).toNat) >>= fun u1 =>
  ea (fun k1 (st:(List (List Nat)))=>eU a b k1 st) ((max 0 (a.zs.N).toNat) - 0) 0 c >>= fun l2 =>
  some l2
def jU (a:ac) (b:Int) (c:List (List Nat)) (k1:Nat) (l1:List (List Nat)):Option (List (List Nat)) :=
  a.aa[k1]? >>= fun x2 =>
  lq a x2 b >>= fun r3 =>
  bif !r3 then
    some l1
  else
    (
      bif x2.Kind == (3:Int) then
        f5 x2.Of (1:Int) >>= fun x3 =>
        eV c x3 >>= fun x4 =>
        some x4
      else
        some ([]:List Nat)
    ) >>= fun l3 =>
    f5 x2.From (1:Int) >>= fun x5 =>
    eV l1 x5 >>= fun x6 =>
    lr a x2 x6 l3 >>= fun r4 =>
    some (l1.set x5.toNat r4) >>= fun l4 =>
    some l4
def gf (a:ac) (b:Int) (c:List (List Nat)):Option (List (List Nat)) :=
  bg c >>= fun r1 =>
  ea (fun k1 (st:(List (List Nat)))=>jU a b c k1 st) (a.aa.length - 0) 0 r1 >>= fun l2 =>
  some l2
def mJ (a:am) (k1:Nat) (l7:List (List Nat)) (k2:Nat) (l8:List (List ao)):Option (List (List ao)) :=
  l7[k1]? >>= fun x5 =>
  j9 (⟨a.zw,a.az,l8,a.al⟩:am) ((k2:Nat):Int) ((k1:Nat):Int) x5 >>= fun r4 =>
  some r4
def fg (a:am) (r1:(List (List Nat))) (k1:Nat) (l2:List (List ao)) (l3:List (List Nat)):Option ((List (List ao)) × (List (List Nat))) :=
  r1[k1]? >>= fun x2 =>
  cY 8 ([]:List Nat) x2 >>= fun l6 =>
  l3[k1]? >>= fun x3 =>
  some (l3.set k1 l6) >>= fun l7 =>
  ea (fun k2 (st:(List (List ao)))=>mJ a k1 l7 k2 st) (l7.length - 0) 0 l2 >>= fun l9 =>
  some (l9,l7)
def cZ (a:am) (b:List (List Nat)):Option ((List (List Nat)) × Int × (List (List ao))) :=
  gf a.zw a.az b >>= fun r1 =>
  og 24 a.zw.S.N a.zw.S.N (([]:List Nat):List Nat) >>= fun l1 =>
  ea (fun k1 (st:(List (List ao)) × (List (List Nat)))=>fg a r1 k1 st.1 st.2) (l1.length - 0) 0 (a.aw,l1) >>= fun (l4,l5) =>
  dY a.az (1:Int) >>= fun x6 =>
  some (l5,x6,l4)
def lj (a:Int) (b:ak) (r1:(List Nat)) (k1:Nat) (l1:List (List (List Nat))):Option (List (List (List Nat))) :=
  eV l1 a >>= fun x4 =>
  lV ((k1:Nat):Int) b.zs.N >>= fun x5 =>
  dY ((k1:Nat):Int) (1:Int) >>= fun x6 =>
  lV x6 b.zs.N >>= fun x7 =>
  nB r1 x5 x7 >>= fun l3 =>
  cY 24 x4 ([l3]:List (List Nat)) >>= fun l4 =>
  some (l1.set a.toNat l4) >>= fun l5 =>
  some l5
def ij (a:Int) (b:List (List Nat)) (c:ak):Option aH :=
  eV b a >>= fun x1 =>
  lV c.zs.N c.zs.N >>= fun x2 =>
  eM x1 x2 >>= fun r1 =>
  mQ (max 0 (c.zs.N).toNat) >>= fun u1 =>
  ea (fun k1 (st:(List (List (List Nat))))=>lj a c r1 k1 st) ((max 0 (c.zs.N).toNat) - 0) 0 c.zd.aW >>= fun l2 =>
  some (⟨c.zd.S,c.zd.Rows,l2⟩:aH)
def bJ (a:ak) (b:List (List Nat)) (k1:Nat) (l1:List (List (List (List Nat)))) (l2:List (List (List (List Nat)))) (l3:List (List (List Nat))):Option ((List (List (List (List Nat)))) × (List (List (List (List Nat)))) × (List (List (List Nat)))) :=
  ij ((k1:Nat):Int) b (⟨a.zn,a.zs,a.zq,(⟨l1,l2,l3⟩:aH)⟩:ak) >>= fun r2 =>
  some (r2.S,r2.Rows,r2.aW)
def da (a:ak) (b:List (List Nat)):Option aH :=
  mQ (max 0 (a.zs.N).toNat) >>= fun u1 =>
  ea (fun k1 (st:(List (List (List (List Nat)))) × (List (List (List (List Nat)))) × (List (List (List Nat))))=>bJ a b k1 st.1 st.2.1 st.2.2) ((max 0 (a.zs.N).toNat) - 0) 0 (a.zd.S,a.zd.Rows,a.zd.aW) >>= fun (l4,l5,l6) =>
  some (⟨l4,l5,l6⟩:aH)
def jH (a:ak) (b:List (List (List Nat))):Option (Int × (List (List ao)) × aH) :=
  og 24 a.zs.N a.zs.N (([]:List Nat):List Nat) >>= fun l1 =>
  c9 a b l1 >>= fun r1 =>
  cZ a.zn r1 >>= fun r2 =>
  da (⟨(⟨a.zn.zw,r2.2.1,r2.2.2,a.zn.al⟩:am),a.zs,a.zq,a.zd⟩:ak) r2.1 >>= fun r3 =>
  some (r2.2.1,r2.2.2,r3)
def lQ (a:am) (b:List (List (List Nat))):Option (aH × Int × (List (List ao)) × (List aJ)) :=
  cI a >>= fun r1 =>
  og 24 r1.S.N r1.S.N ([]:List (List (List Nat))) >>= fun l1 =>
  og 24 r1.S.N r1.S.N ([]:List (List Nat)) >>= fun l2 =>
  kG (⟨a,r1.S,b,(⟨l1,l1,l2⟩:aH)⟩:ak) >>= fun r2 =>
  ik (⟨(⟨a.zw,a.az,a.aw,r2.1⟩:am),r1.S,b,r2.2⟩:ak) >>= fun r3 =>
  jT (⟨(⟨a.zw,r3.1,r3.2.1,r2.1⟩:am),r1.S,b,r3.2.2⟩:ak) >>= fun r4 =>
  jH (⟨(⟨a.zw,r4.2.1,r4.2.2,r2.1⟩:am),r1.S,b,r3.2.2⟩:ak) r4.1 >>= fun r5 =>
  some (r5.2.2,r5.1,r5.2.1,r2.1)
def bq (a:ay):Option Int :=
  some ((a.zd.Rows.length:Nat):Int)
def oi (k1:Nat) (x3:List Nat) (k2:Nat) (l3:List de):Option (List de) :=
  x3[k2]? >>= fun x5 =>
  bif ((x5:Nat):Int) != (0:Int) then
    cY 16 l3 ([(⟨((k1:Nat):Int),((k2:Nat):Int)⟩:de)]:List de) >>= fun l5 =>
    some l5
  else
    some l3
def oh (a:ay) (b:Int) (k1:Nat) (l1:List de):Option (List de) :=
  a.zd.aW[k1]? >>= fun x2 =>
  eV x2 b >>= fun x3 =>
  ea (fun k2 (st:(List de))=>oi k1 x3 k2 st) (x3.length - 0) 0 l1 >>= fun l4 =>
  some l4
def fQ (a:ay) (b:Int):Option (List de) :=
  bq a >>= fun r1 =>
  mQ (max 0 (r1).toNat) >>= fun u1 =>
  ea (fun k1 (st:(List de))=>oh a b k1 st) ((max 0 (r1).toNat) - 0) 0 ([]:List de) >>= fun l2 =>
  some l2
def p5 (a:Int):Option Nat :=
  dY a (1:Int) >>= fun x1 =>
  some (tf x1) >>= fun x2 =>
  some x2
def oo (a:Nat) (b:List (List Nat)) (c:Nat) (d:Nat):Option Nat :=
  gY a b c >>= fun r1 =>
  ll a r1 d >>= fun r2 =>
  some r2
def ip (a:ay) (b:Int):Option Int :=
  eV a.zd.S b >>= fun x1 =>
  some ((x1.length:Nat):Int)
def kg (a:ki) (b:Int):Option ((List Nat) × (List Nat)) :=
  eM a.zl b >>= fun r1 =>
  some (min b ((a.zl.length:Nat):Int)) >>= fun x1 =>
  nB a.zl x1 ((a.zl.length:Nat):Int) >>= fun l1 =>
  some (r1,l1)
def oR (a:ay) (x3:de) (x4:List (List (List Nat))) (k3:Nat) (l5:List Nat):Option (List Nat) :=
  x4[k3]? >>= fun x6 =>
  p5 x3.e0 >>= fun r6 =>
  p5 x3.e1 >>= fun r7 =>
  oo a.zp x6 r6 r7 >>= fun r8 =>
  cY 8 l5 ([r8]:List Nat) >>= fun l7 =>
  some l7
def oQ (a:ay) (k1:Nat) (r3:(List de)) (k2:Nat) (l3:List Nat):Option (List Nat) :=
  r3[k2]? >>= fun x3 =>
  a.zd.S[k1]? >>= fun x4 =>
  ea (fun k3 (st:(List Nat))=>oR a x3 x4 k3 st) (x4.length - 0) 0 l3 >>= fun l6 =>
  some l6
def oP (a:ay) (k1:Nat) (l1:List (List Nat)):Option (List (List Nat)) :=
  fQ a ((k1:Nat):Int) >>= fun r3 =>
  ea (fun k2 (st:(List Nat))=>oQ a k1 r3 k2 st) (r3.length - 0) 0 ([]:List Nat) >>= fun l4 =>
  cY 24 l1 ([l4]:List (List Nat)) >>= fun l8 =>
  some l8
def gE (a:ay) (r9:(List (List Nat)) × Int × (List (List ao))) (k4:Nat) (k5:Nat) (l11:List Nat) (l12:List (List Nat)):Option ((List Nat) × (List (List Nat))) :=
  ip (⟨(⟨a.zn.zw,r9.2.1,r9.2.2,a.zn.al⟩:am),a.zp,a.zd,a.bl,a.bz,a.dc⟩:ay) ((k4:Nat):Int) >>= fun r14 =>
  kg (⟨l11⟩:ki) r14 >>= fun r15 =>
  cY 24 l12 ([r15.1]:List (List Nat)) >>= fun l15 =>
  some (r15.2,l15)
def oS (a:ay) (r9:(List (List Nat)) × Int × (List (List ao))) (k4:Nat) (l9:List (List (List Nat))):Option (List (List (List Nat))) :=
  r9.1[k4]? >>= fun x8 =>
  fQ (⟨(⟨a.zn.zw,r9.2.1,r9.2.2,a.zn.al⟩:am),a.zp,a.zd,a.bl,a.bz,a.dc⟩:ay) ((k4:Nat):Int) >>= fun r12 =>
  ea (fun k5 (st:(List Nat) × (List (List Nat)))=>gE a r9 k4 k5 st.1 st.2) (r12.length - 0) 0 (x8,([]:List (List Nat))) >>= fun (l13,l14) =>
  cY 24 l9 ([l14]:List (List (List Nat))) >>= fun l16 =>
  some l16
def mg (a:ay):Option ((List (List (List Nat))) × Int × (List (List ao))) :=
  bq a >>= fun r1 =>
  mQ (max 0 (r1).toNat) >>= fun u1 =>
  ea (fun k1 (st:(List (List Nat)))=>oP a k1 st) ((max 0 (r1).toNat) - 0) 0 ([]:List (List Nat)) >>= fun l2 =>
  cZ a.zn l2 >>= fun r9 =>
  bq (⟨(⟨a.zn.zw,r9.2.1,r9.2.2,a.zn.al⟩:am),a.zp,a.zd,a.bl,a.bz,a.dc⟩:ay) >>= fun r10 =>
  mQ (max 0 (r10).toNat) >>= fun u2 =>
  ea (fun k4 (st:(List (List (List Nat))))=>oS a r9 k4 st) ((max 0 (r10).toNat) - 0) 0 ([]:List (List (List Nat))) >>= fun l10 =>
  some (l10,r9.2.1,r9.2.2)
def sV (a:de) (b:Int):Option (List Int) :=
  (
    bif a.e0 == b then
      cY 8 ([]:List Int) ([a.e1]:List Int) >>= fun l2 =>
      some l2
    else
      some ([]:List Int)
  ) >>= fun l1 =>
  bif a.e1 == b then
    cY 8 l1 ([a.e0]:List Int) >>= fun l3 =>
    some l3
  else
    some l1
def mP (a:ay) (b:Int) (c:Int) (d:Int):Option (List Nat) :=
  eV a.zd.Rows b >>= fun x1 =>
  eV x1 c >>= fun x2 =>
  eV x2 d >>= fun x3 =>
  some x3
def oX (a:ay) (b:Int) (c:Int) (x2:Int) (x3:List Nat) (k3:Nat):Option (Out Unit Bool) :=
  x3[k3]? >>= fun x4 =>
  mP a b c ((k3:Nat):Int) >>= fun r6 =>
  p5 x2 >>= fun r7 =>
  ll a.zp r6 r7 >>= fun r8 =>
  bif ((r8:Nat):Int) != ((x4:Nat):Int) then
    some (.fin true)
  else
    some (.go ())
def oW (a:ay) (b:Int) (c:Int) (d:List (List Nat)) (k1:Nat) (r3:(List Int)) (k2:Nat):Option (Out Unit Bool) :=
  r3[k2]? >>= fun x2 =>
  d[k1]? >>= fun x3 =>
  nM (fun k3 (st:Unit)=>oX a b c x2 x3 k3) (x3.length - 0) 0 () >>= fun r5=>iA r5 (fun x=>some (.fin x)) fun _ =>
  some (.go ())
def oV (a:ay) (b:Int) (c:Int) (d:List (List Nat)) (r1:(List de)) (k1:Nat):Option (Out Unit Bool) :=
  r1[k1]? >>= fun x1 =>
  sV x1 b >>= fun r3 =>
  nM (fun k2 (st:Unit)=>oW a b c d k1 r3 k2) (r3.length - 0) 0 () >>= fun r4=>iA r4 (fun x=>some (.fin x)) fun _ =>
  some (.go ())
def mh (a:ay) (b:Int) (c:Int) (d:List (List Nat)):Option Bool :=
  fQ a c >>= fun r1 =>
  nM (fun k1 (st:Unit)=>oV a b c d r1 k1) (r1.length - 0) 0 () >>= fun r2=>iA r2 (fun x=>some x) fun _ =>
  some false
def oO (a:Int) (b:Int) (c:ay) (d:List (List (List Nat))):Option Bool :=
  eV d b >>= fun x1 =>
  mh c a b x1 >>= fun r1 =>
  some r1
def hZ (a:ay) (b:List (List (List Nat))) (k1:Nat) (k2:Nat) (l3:List Nat):Option (List Nat) :=
  oO ((k1:Nat):Int) ((k2:Nat):Int) a b >>= fun r4 =>
  bif r4 then
    cY 8 l3 ([1]:List Nat) >>= fun l5 =>
    some l5
  else
    cY 8 l3 ([0]:List Nat) >>= fun l6 =>
    some l6
def hY (a:ay) (b:List (List (List Nat))) (r1:Int) (k1:Nat) (l1:List (List Nat)):Option (List (List Nat)) :=
  ea (fun k2 (st:(List Nat))=>hZ a b k1 k2 st) ((max 0 (r1).toNat) - 0) 0 ([]:List Nat) >>= fun l4 =>
  cY 24 l1 ([l4]:List (List Nat)) >>= fun l7 =>
  some l7
def ic (r5:(List (List Nat)) × Int × (List (List ao))) (r6:Int) (k3:Nat) (k4:Nat) (l11:List (List Bool)):Option (List (List Bool)) :=
  l11[k3]? >>= fun x5 =>
  r5.1[k4]? >>= fun x6 =>
  eM x6 r6 >>= fun r9 =>
  r9[k3]? >>= fun x7 =>
  cY 1 x5 ([((x7:Nat):Int) != (0:Int)]:List Bool) >>= fun l13 =>
  some (l11.set k3 l13) >>= fun l14 =>
  some l14
def ia (r5:(List (List Nat)) × Int × (List (List ao))) (r6:Int) (k3:Nat) (l9:List (List Bool)):Option (List (List Bool)) :=
  mQ (max 0 (r6).toNat) >>= fun u2 =>
  ea (fun k4 (st:(List (List Bool)))=>ic r5 r6 k3 k4 st) ((max 0 (r6).toNat) - 0) 0 l9 >>= fun l12 =>
  some l12
def fc (a:ay) (b:List (List (List Nat))):Option ((List (List Bool)) × Int × (List (List ao))) :=
  bq a >>= fun r1 =>
  mQ (max 0 (r1).toNat) >>= fun u1 =>
  ea (fun k1 (st:(List (List Nat)))=>hY a b r1 k1 st) ((max 0 (r1).toNat) - 0) 0 ([]:List (List Nat)) >>= fun l2 =>
  cZ a.zn l2 >>= fun r5 =>
  bq (⟨(⟨a.zn.zw,r5.2.1,r5.2.2,a.zn.al⟩:am),a.zp,a.zd,a.bl,a.bz,a.dc⟩:ay) >>= fun r6 =>
  og 24 r6 r6 ([]:List Bool) >>= fun l8 =>
  ea (fun k3 (st:(List (List Bool)))=>ia r5 r6 k3 st) (l8.length - 0) 0 l8 >>= fun l10 =>
  some (l10,r5.2.1,r5.2.2)
def qz (a:ay) (k2:Nat) (x5:List (List (List Nat))) (k3:Nat) (l5:List Nat):Option (List Nat) :=
  x5[k3]? >>= fun x7 =>
  p5 ((k2:Nat):Int) >>= fun r5 =>
  gY a.zp x7 r5 >>= fun r6 =>
  cY 8 l5 r6 >>= fun l7 =>
  some l7
def qy (a:ay) (k1:Nat) (x2:List Bool) (k2:Nat) (l3:List Nat):Option (List Nat) :=
  x2[k2]? >>= fun x4 =>
  bif x4 then
    a.zd.S[k1]? >>= fun x5 =>
    ea (fun k3 (st:(List Nat))=>qz a k2 x5 k3 st) (x5.length - 0) 0 l3 >>= fun l6 =>
    some l6
  else
    some l3
def qx (a:ay) (k1:Nat) (l1:List (List Nat)):Option (List (List Nat)) :=
  a.bl[k1]? >>= fun x2 =>
  ea (fun k2 (st:(List Nat))=>qy a k1 x2 k2 st) (x2.length - 0) 0 ([]:List Nat) >>= fun l4 =>
  cY 24 l1 ([l4]:List (List Nat)) >>= fun l8 =>
  some l8
def jF (x8:Int) (k5:Nat) (k6:Nat) (l16:List Nat) (l17:List (List (List Nat))):Option ((List Nat) × (List (List (List Nat)))) :=
  l17[k5]? >>= fun x15 =>
  kg (⟨l16⟩:ki) x8 >>= fun r15 =>
  cY 24 x15 ([r15.1]:List (List Nat)) >>= fun l20 =>
  some (l17.set k5 l20) >>= fun l21 =>
  some (r15.2,l21)
def jE (a:ay) (r7:(List (List Nat)) × Int × (List (List ao))) (x8:Int) (l9:List (List (List (List Nat)))) (k4:Nat) (x11:List Bool) (k5:Nat) (l12:List Nat) (l13:List (List (List Nat))):Option ((List Nat) × (List (List (List Nat)))) :=
  x11[k5]? >>= fun x13 =>
  bif x13 then
    ip (⟨(⟨a.zn.zw,r7.2.1,r7.2.2,a.zn.al⟩:am),a.zp,a.zd,a.bl,a.bz,l9⟩:ay) ((k4:Nat):Int) >>= fun r13 =>
    mQ (max 0 (r13).toNat) >>= fun u3 =>
    ea (fun k6 (st:(List Nat) × (List (List (List Nat))))=>jF x8 k5 k6 st.1 st.2) ((max 0 (r13).toNat) - 0) 0 (l12,l13) >>= fun (l18,l19) =>
    some (l18,l19)
  else
    some (l12,l13)
def qA (a:ay) (r7:(List (List Nat)) × Int × (List (List ao))) (x8:Int) (k4:Nat) (l9:List (List (List (List Nat)))):Option (List (List (List (List Nat)))) :=
  r7.1[k4]? >>= fun x10 =>
  bq (⟨(⟨a.zn.zw,r7.2.1,r7.2.2,a.zn.al⟩:am),a.zp,a.zd,a.bl,a.bz,l9⟩:ay) >>= fun r11 =>
  og 24 r11 r11 ([]:List (List Nat)) >>= fun l11 =>
  a.bl[k4]? >>= fun x11 =>
  ea (fun k5 (st:(List Nat) × (List (List (List Nat))))=>jE a r7 x8 l9 k4 x11 k5 st.1 st.2) (x11.length - 0) 0 (x10,l11) >>= fun (l14,l15) =>
  cY 24 l9 ([l15]:List (List (List (List Nat)))) >>= fun l22 =>
  some l22
def oU (a:ay):Option (Int × (List (List ao)) × (List (List (List (List Nat))))) :=
  bq a >>= fun r1 =>
  mQ (max 0 (r1).toNat) >>= fun u1 =>
  ea (fun k1 (st:(List (List Nat)))=>qx a k1 st) ((max 0 (r1).toNat) - 0) 0 ([]:List (List Nat)) >>= fun l2 =>
  cZ a.zn l2 >>= fun r7 =>
  cI (⟨a.zn.zw,r7.2.1,r7.2.2,a.zn.al⟩:am) >>= fun r8 =>
  dY r8.S.T (1:Int) >>= fun x8 =>
  bq (⟨(⟨a.zn.zw,r7.2.1,r7.2.2,a.zn.al⟩:am),a.zp,a.zd,a.bl,a.bz,a.dc⟩:ay) >>= fun r9 =>
  mQ (max 0 (r9).toNat) >>= fun u2 =>
  ea (fun k4 (st:(List (List (List (List Nat)))))=>qA a r7 x8 k4 st) ((max 0 (r9).toNat) - 0) 0 a.dc >>= fun l10 =>
  some (r7.2.1,r7.2.2,l10)
def nS (a:ay) (b:Int) (c:Int) (k1:Nat) (x4:List (List Nat)) (k2:Nat):Option (Out Unit Bool) :=
  x4[k2]? >>= fun x5 =>
  p5 b >>= fun r3 =>
  ll a.zp x5 r3 >>= fun r4 =>
  mP a b c ((k2:Nat):Int) >>= fun r5 =>
  p5 ((k1:Nat):Int) >>= fun r6 =>
  ll a.zp r5 r6 >>= fun r7 =>
  bif ((r4:Nat):Int) != ((r7:Nat):Int) then
    some (.fin true)
  else
    some (.go ())
def nR (a:ay) (b:Int) (c:Int) (x3:List (List (List Nat))) (k1:Nat):Option (Out Unit Bool) :=
  x3[k1]? >>= fun x4 =>
  nM (fun k2 (st:Unit)=>nS a b c k1 x4 k2) (x4.length - 0) 0 () >>= fun r2=>iA r2 (fun x=>some (.fin x)) fun _ =>
  some (.go ())
def kZ (a:ay) (b:Int) (c:Int):Option Bool :=
  eV a.bl c >>= fun x1 =>
  eV x1 b >>= fun x2 =>
  bif x2 then
    some false
  else
    eV a.dc c >>= fun x3 =>
    nM (fun k1 (st:Unit)=>nR a b c x3 k1) (x3.length - 0) 0 () >>= fun r1=>iA r1 (fun x=>some x) fun _ =>
    some false
def f7 (a:ay) (k1:Nat) (k2:Nat) (l3:List Nat):Option (List Nat) :=
  kZ a ((k1:Nat):Int) ((k2:Nat):Int) >>= fun r4 =>
  bif r4 then
    cY 8 l3 ([1]:List Nat) >>= fun l5 =>
    some l5
  else
    cY 8 l3 ([0]:List Nat) >>= fun l6 =>
    some l6
def f6 (a:ay) (r1:Int) (k1:Nat) (l1:List (List Nat)):Option (List (List Nat)) :=
  ea (fun k2 (st:(List Nat))=>f7 a k1 k2 st) ((max 0 (r1).toNat) - 0) 0 ([]:List Nat) >>= fun l4 =>
  cY 24 l1 ([l4]:List (List Nat)) >>= fun l7 =>
  some l7
def ge (r5:(List (List Nat)) × Int × (List (List ao))) (r6:Int) (k3:Nat) (k4:Nat) (l11:List (List Bool)):Option (List (List Bool)) :=
  l11[k3]? >>= fun x5 =>
  r5.1[k4]? >>= fun x6 =>
  eM x6 r6 >>= fun r9 =>
  r9[k3]? >>= fun x7 =>
  cY 1 x5 ([((x7:Nat):Int) != (0:Int)]:List Bool) >>= fun l13 =>
  some (l11.set k3 l13) >>= fun l14 =>
  some l14
def f8 (r5:(List (List Nat)) × Int × (List (List ao))) (r6:Int) (k3:Nat) (l9:List (List Bool)):Option (List (List Bool)) :=
  mQ (max 0 (r6).toNat) >>= fun u2 =>
  ea (fun k4 (st:(List (List Bool)))=>ge r5 r6 k3 k4 st) ((max 0 (r6).toNat) - 0) 0 l9 >>= fun l12 =>
  some l12
def ek (a:ay):Option ((List (List Bool)) × Int × (List (List ao))) :=
  bq a >>= fun r1 =>
  mQ (max 0 (r1).toNat) >>= fun u1 =>
  ea (fun k1 (st:(List (List Nat)))=>f6 a r1 k1 st) ((max 0 (r1).toNat) - 0) 0 ([]:List (List Nat)) >>= fun l2 =>
  cZ a.zn l2 >>= fun r5 =>
  bq (⟨(⟨a.zn.zw,r5.2.1,r5.2.2,a.zn.al⟩:am),a.zp,a.zd,a.bl,a.bz,a.dc⟩:ay) >>= fun r6 =>
  og 24 r6 r6 ([]:List Bool) >>= fun l8 =>
  ea (fun k3 (st:(List (List Bool)))=>f8 r5 r6 k3 st) (l8.length - 0) 0 l8 >>= fun l10 =>
  some (l10,r5.2.1,r5.2.2)
def rl (a:ay) (b:Int) (k1:Nat) (x1:Int):Option Int :=
  eV a.bl b >>= fun x4 =>
  x4[k1]? >>= fun x5 =>
  bif x5 then
    dY x1 (1:Int) >>= fun x6 =>
    some x6
  else
    eV a.bz b >>= fun x7 =>
    x7[k1]? >>= fun x8 =>
    bif x8 then
      dY x1 (1:Int) >>= fun x9 =>
      some x9
    else
      some x1
def pN (a:ay) (b:Int):Option Bool :=
  bq a >>= fun r1 =>
  mQ (max 0 (r1).toNat) >>= fun u1 =>
  ea (fun k1 (st:Int)=>rl a b k1 st) ((max 0 (r1).toNat) - 0) 0 ((0:Nat):Int) >>= fun x3 =>
  cI a.zn >>= fun r3 =>
  some (decide (x3 > r3.S.T))
def qw (a:ay) (k1:Nat) (l2:List (List Nat)):Option (List (List Nat)) :=
  cI a.zn >>= fun r3 =>
  dY r3.S.T (1:Int) >>= fun x2 =>
  og 8 x2 x2 (0:Nat) >>= fun l4 =>
  l2[k1]? >>= fun x3 =>
  some (l2.set k1 l4) >>= fun l5 =>
  some l5
def oT (a:ay) (b:Int) (c:Int) (d:Bool):Option (List (List Nat)) :=
  bif d then
    ip a c >>= fun r1 =>
    og 24 r1 r1 (([]:List Nat):List Nat) >>= fun l1 =>
    ea (fun k1 (st:(List (List Nat)))=>qw a k1 st) (l1.length - 0) 0 l1 >>= fun l3 =>
    some l3
  else
    eV a.bl c >>= fun x4 =>
    eV x4 b >>= fun x5 =>
    bif x5 then
      eV a.dc c >>= fun x6 =>
      eV x6 b >>= fun x7 =>
      some x7
    else
      eV a.zd.Rows b >>= fun x8 =>
      eV x8 c >>= fun x9 =>
      bg x9 >>= fun r4 =>
      some r4
def rQ (a:am) (b:aH) (r1:ac) (r3:(List (List Bool)) × Int × (List (List ao))) (r4:Int × (List (List ao)) × (List (List (List (List Nat))))) (r5:(List (List Bool)) × Int × (List (List ao))) (k1:Nat) (l1:List Bool):Option (List Bool) :=
  pN (⟨(⟨a.zw,r5.2.1,r5.2.2,a.al⟩:am),r1.S.P,b,r3.1,r5.1,r4.2.2⟩:ay) ((k1:Nat):Int) >>= fun r8 =>
  cY 1 l1 ([r8]:List Bool) >>= fun l3 =>
  some l3
def rT (a:am) (b:aH) (r1:ac) (r3:(List (List Bool)) × Int × (List (List ao))) (r4:Int × (List (List ao)) × (List (List (List (List Nat))))) (r5:(List (List Bool)) × Int × (List (List ao))) (l2:List Bool) (k2:Nat) (k3:Nat) (l6:List (List (List Nat))):Option (List (List (List Nat))) :=
  l2[k3]? >>= fun x4 =>
  oT (⟨(⟨a.zw,r5.2.1,r5.2.2,a.al⟩:am),r1.S.P,b,r3.1,r5.1,r4.2.2⟩:ay) ((k2:Nat):Int) ((k3:Nat):Int) x4 >>= fun r11 =>
  cY 24 l6 ([r11]:List (List (List Nat))) >>= fun l8 =>
  some l8
def rR (a:am) (b:aH) (r1:ac) (r3:(List (List Bool)) × Int × (List (List ao))) (r4:Int × (List (List ao)) × (List (List (List (List Nat))))) (r5:(List (List Bool)) × Int × (List (List ao))) (r6:Int) (l2:List Bool) (k2:Nat) (l4:List (List (List (List Nat)))):Option (List (List (List (List Nat)))) :=
  ea (fun k3 (st:(List (List (List Nat))))=>rT a b r1 r3 r4 r5 l2 k2 k3 st) ((max 0 (r6).toNat) - 0) 0 ([]:List (List (List Nat))) >>= fun l7 =>
  cY 24 l4 ([l7]:List (List (List (List Nat)))) >>= fun l9 =>
  some l9
def qv (a:am) (b:aH):Option (b0 × Int × (List (List ao))) :=
  cI a >>= fun r1 =>
  mg (⟨a,r1.S.P,b,([]:List (List Bool)),([]:List (List Bool)),([]:List (List (List (List Nat))))⟩:ay) >>= fun r2 =>
  fc (⟨(⟨a.zw,r2.2.1,r2.2.2,a.al⟩:am),r1.S.P,b,([]:List (List Bool)),([]:List (List Bool)),([]:List (List (List (List Nat))))⟩:ay) r2.1 >>= fun r3 =>
  oU (⟨(⟨a.zw,r3.2.1,r3.2.2,a.al⟩:am),r1.S.P,b,r3.1,([]:List (List Bool)),([]:List (List (List (List Nat))))⟩:ay) >>= fun r4 =>
  ek (⟨(⟨a.zw,r4.1,r4.2.1,a.al⟩:am),r1.S.P,b,r3.1,([]:List (List Bool)),r4.2.2⟩:ay) >>= fun r5 =>
  bq (⟨(⟨a.zw,r5.2.1,r5.2.2,a.al⟩:am),r1.S.P,b,r3.1,r5.1,r4.2.2⟩:ay) >>= fun r6 =>
  mQ (max 0 (r6).toNat) >>= fun u1 =>
  ea (fun k1 (st:(List Bool))=>rQ a b r1 r3 r4 r5 k1 st) ((max 0 (r6).toNat) - 0) 0 ([]:List Bool) >>= fun l2 =>
  ea (fun k2 (st:(List (List (List (List Nat)))))=>rR a b r1 r3 r4 r5 r6 l2 k2 st) ((max 0 (r6).toNat) - 0) 0 ([]:List (List (List (List Nat)))) >>= fun l5 =>
  some ((⟨l5,l2⟩:b0),r5.2.1,r5.2.2)
def tM (a:am) (b:List (List (List Nat))):Option (b0 × Int × (List (List ao)) × (List aJ)) :=
  lQ a b >>= fun r1 =>
  qv (⟨a.zw,r1.2.1,r1.2.2.1,r1.2.2.2⟩:am) r1.1 >>= fun r2 =>
  some (r2.1,r2.2.1,r2.2.2,r1.2.2.2)
def gP (a:Int) (k1:Nat) (l1:List Nat):Option (List Nat) :=
  dY a ((k1:Nat):Int) >>= fun x2 =>
  some (tf x2) >>= fun x3 =>
  cY 8 l1 ([x3]:List Nat) >>= fun l3 =>
  some l3
def dy (a:Int) (b:Int):Option (List Nat) :=
  mQ (max 0 (b).toNat) >>= fun u1 =>
  ea (fun k1 (st:(List Nat))=>gP a k1 st) ((max 0 (b).toNat) - 0) 0 ([]:List Nat) >>= fun l2 =>
  some l2
def pH (a:Nat):Option Int :=
  kU a >>= fun r1 =>
  some r1
def jZ (a:Nat):Option Bool :=
  some (((a:Nat):Int) != ((a:Nat):Int))
def dI (a:Nat) (b:Nat):Option Bool :=
  jZ a >>= fun r1 =>
  bif r1 then
    jZ b >>= fun r2 =>
    bif !r2 then
      some true
    else
      some (decide (((a:Nat):Int) < ((b:Nat):Int)))
  else
    some (decide (((a:Nat):Int) < ((b:Nat):Int)))
def cQ (a:Int) (l4:List Nat) (x3:Int):Option (Out ((List Nat) × Int) (List Nat)) :=
  (
    bif decide (x3 > a) then
      eV l4 x3 >>= fun x5 =>
      f5 x3 (1:Int) >>= fun x6 =>
      eV l4 x6 >>= fun x7 =>
      dI x5 x7 >>= fun r3 =>
      some r3
    else
      some false
  ) >>= fun x4 =>
  bif x4 then
    f5 x3 (1:Int) >>= fun x8 =>
    eV l4 x8 >>= fun x9 =>
    eV l4 x3 >>= fun x10 =>
    some (l4.set x3.toNat x9) >>= fun l7 =>
    eV l7 x8 >>= fun x11 =>
    some (l7.set x8.toNat x10) >>= fun l8 =>
    some (.go (l8,x8))
  else
    some (.fin l4)
def cP (a:Int) (b:Int) (l1:List Nat) (x2:Int):Option (Out ((List Nat) × Int) (List Nat)) :=
  bif decide (x2 < b) then
    qE (fun (st:(List Nat) × Int)=>cQ a st.1 st.2) big (l1,x2) >>= fun l6 =>
    dY x2 (1:Int) >>= fun x12 =>
    some (.go (l6,x12))
  else
    some (.fin l1)
def eP (a:List Nat) (b:Int) (c:Int):Option (List Nat) :=
  dY b (1:Int) >>= fun x1 =>
  qE (fun (st:(List Nat) × Int)=>cP b c st.1 st.2) big (a,x1) >>= fun l3 =>
  some l3
def dq (a:List Nat) (b:Int) (c:Int) (d:Int):Option (Int × Int × Int × (List Nat)) :=
  eV a c >>= fun x1 =>
  eV a b >>= fun x2 =>
  dI x1 x2 >>= fun r1 =>
  bif r1 then
    dY d (1:Int) >>= fun x3 =>
    some (c,b,x3,a)
  else
    some (b,c,d,a)
def dp (a:List Nat) (b:Int) (c:Int) (d:Int) (e:Int):Option (Int × Int × (List Nat)) :=
  dq a b c e >>= fun r1 =>
  dq r1.2.2.2 r1.2.1 d r1.2.2.1 >>= fun r2 =>
  dq r2.2.2.2 r1.1 r2.1 r2.2.2.1 >>= fun r3 =>
  some (r3.2.1,r3.2.2.1,r3.2.2.2)
def cg (a:List Nat) (b:Int) (c:Int):Option (Int × Int × (List Nat)) :=
  f5 b (1:Int) >>= fun x1 =>
  dY b (1:Int) >>= fun x2 =>
  dp a x1 b x2 c >>= fun r1 =>
  some (r1.1,r1.2.1,r1.2.2)
def fb (a:List Nat) (b:Int) (c:Int):Option (Int × Int × (List Nat)) :=
  f5 c b >>= fun x1 =>
  vZ x1 (4:Int) >>= fun x2 =>
  lV x2 (1:Int) >>= fun x3 =>
  dY b x3 >>= fun x4 =>
  lV x2 (2:Int) >>= fun x5 =>
  dY b x5 >>= fun x6 =>
  lV x2 (3:Int) >>= fun x7 =>
  dY b x7 >>= fun x8 =>
  (
    bif decide (x1 ≥ (8:Int)) then
      bif decide (x1 ≥ (50:Int)) then
        cg a x4 ((0:Nat):Int) >>= fun r1 =>
        cg r1.2.2 x6 r1.2.1 >>= fun r2 =>
        cg r2.2.2 x8 r2.2.1 >>= fun r3 =>
        dp r3.2.2 r1.1 r2.1 r3.1 r3.2.1 >>= fun r4 =>
        some (r4.2.2,r4.2.1,r4.1)
      else
        dp a x4 x6 x8 ((0:Nat):Int) >>= fun r5 =>
        some (r5.2.2,r5.2.1,r5.1)
    else
      some (a,((0:Nat):Int),x6)
  ) >>= fun (l1,x9,x10) =>
  bif x9 == (0:Int) then
    some (x10,((1:Nat):Int),l1)
  else
    bif x9 == (12:Int) then
      some (x10,((2:Nat):Int),l1)
    else
      some (x10,((0:Nat):Int),l1)
def fA (a:Int) (l1:List Nat) (x6:Int):Option (Out Int Int) :=
  bif decide (x6 < a) then
    eV l1 x6 >>= fun x9 =>
    f5 x6 (1:Int) >>= fun x10 =>
    eV l1 x10 >>= fun x11 =>
    dI x9 x11 >>= fun r3 =>
    bif !r3 then
      dY x6 (1:Int) >>= fun x12 =>
      some (.go x12)
    else
      some (.fin x6)
  else
    some (.fin x6)
def cb (l7:List Nat) (x19:Int):Option (Out ((List Nat) × Int) (List Nat)) :=
  bif decide (x19 ≥ (1:Int)) then
    eV l7 x19 >>= fun x20 =>
    f5 x19 (1:Int) >>= fun x21 =>
    eV l7 x21 >>= fun x22 =>
    dI x20 x22 >>= fun r5 =>
    bif !r5 then
      some (.fin l7)
    else
      some (l7.set x19.toNat x22) >>= fun l10 =>
      eV l10 x21 >>= fun x23 =>
      some (l10.set x21.toNat x20) >>= fun l11 =>
      some (.go (l11,x21))
  else
    some (.fin l7)
def cc (a:Int) (l12:List Nat) (x26:Int):Option (Out ((List Nat) × Int) (List Nat)) :=
  bif decide (x26 < a) then
    eV l12 x26 >>= fun x27 =>
    f5 x26 (1:Int) >>= fun x28 =>
    eV l12 x28 >>= fun x29 =>
    dI x27 x29 >>= fun r7 =>
    bif !r7 then
      some (.fin l12)
    else
      some (l12.set x26.toNat x29) >>= fun l15 =>
      eV l15 x28 >>= fun x30 =>
      some (l15.set x28.toNat x27) >>= fun l16 =>
      dY x26 (1:Int) >>= fun x31 =>
      some (.go (l16,x31))
  else
    some (.fin l12)
def ca (a:Int) (b:Int) (k1:Nat) (l1:List Nat) (x2:Int):Option (Out ((List Nat) × Int) (Bool × (List Nat))) :=
  qE (fun (st:Int)=>fA b l1 st) big x2 >>= fun x8 =>
  bif x8 == b then
    some (.fin (true,l1))
  else
    f5 b a >>= fun x13 =>
    bif decide (x13 < (50:Int)) then
      some (.fin (false,l1))
    else
      f5 x8 (1:Int) >>= fun x14 =>
      eV l1 x14 >>= fun x15 =>
      eV l1 x8 >>= fun x16 =>
      some (l1.set x8.toNat x15) >>= fun l4 =>
      eV l4 x14 >>= fun x17 =>
      some (l4.set x14.toNat x16) >>= fun l5 =>
      f5 x8 a >>= fun x18 =>
      (
        bif decide (x18 ≥ (2:Int)) then
          qE (fun (st:(List Nat) × Int)=>cb st.1 st.2) big (l5,x14) >>= fun l9 =>
          some l9
        else
          some l5
      ) >>= fun l6 =>
      f5 b x8 >>= fun x24 =>
      bif decide (x24 ≥ (2:Int)) then
        dY x8 (1:Int) >>= fun x25 =>
        qE (fun (st:(List Nat) × Int)=>cc b st.1 st.2) big (l6,x25) >>= fun l14 =>
        some (.go (l14,x8))
      else
        some (.go (l6,x8))
def dJ (a:List Nat) (b:Int) (c:Int):Option (Bool × (List Nat)) :=
  dY b (1:Int) >>= fun x1 =>
  mQ 5 >>= fun u1 =>
  nM (fun k1 (st:(List Nat) × Int)=>ca b c k1 st.1 st.2) (5 - 0) 0 (a,x1) >>= fun r1=>iA r1 (fun x=>some x) fun (l2,x4) =>
  some (false,l2)
def jM (a:List Nat) (b:Int) (c:Int) (d:Int):Option (Out Unit ((List Nat) ⊕ Unit)) :=
  f5 c b >>= fun x1 =>
  bif decide (x1≤(12:Int)) then
    eP a b c >>= fun r2 =>
    some (.fin (.inl r2))
  else
    bif d == (0:Int) then
      none
    else
      fb a b c >>= fun r3 =>
      bif r3.2.1 == (2:Int) then
        none
      else
        bif r3.2.1 == (1:Int) then
          dJ r3.2.2 b c >>= fun r4 =>
          bif r4.1 then
            some (.fin (.inl r4.2))
          else
            (
              bif decide (b > (0:Int)) then
                f5 b (1:Int) >>= fun x3 =>
                eV r4.2 x3 >>= fun x4 =>
                eV r4.2 r3.1 >>= fun x5 =>
                dI x4 x5 >>= fun r5 =>
                some (!r5)
              else
                some false
            ) >>= fun x2 =>
            bif x2 then
              none
            else
              none
        else
          (
            bif decide (b > (0:Int)) then
              f5 b (1:Int) >>= fun x7 =>
              eV r3.2.2 x7 >>= fun x8 =>
              eV r3.2.2 r3.1 >>= fun x9 =>
              dI x8 x9 >>= fun r6 =>
              some (!r6)
            else
              some false
          ) >>= fun x6 =>
          bif x6 then
            none
          else
            none
def fV (a:List Nat) (b:Int) (c:Int) (d:Int):Option (List Nat) :=
  qE (fun (st:Unit)=>jM a b c d) big () >>= fun r1=>Fj r1 (fun x=>some x) fun _ =>
  none
def gA (a:List Nat):Option (List Nat) :=
  some (tf ((a.length:Nat):Int)) >>= fun x1 =>
  pH x1 >>= fun r1 =>
  fV a ((0:Nat):Int) ((a.length:Nat):Int) r1 >>= fun r2 =>
  some r2
def jB (a:List Nat) (x1:Int):Option (Out Int Unit) :=
  bif decide (x1 < ((a.length:Nat):Int)) then
    eV a x1 >>= fun x2 =>
    f5 x1 (1:Int) >>= fun x3 =>
    eV a x3 >>= fun x4 =>
    bif ((x2:Nat):Int) == ((x4:Nat):Int) then
      none
    else
      dY x1 (1:Int) >>= fun x5 =>
      some (.go x5)
  else
    some (.fin ())
def fK (a:List Nat):Option (List Nat) :=
  bif decide (((a.length:Nat):Int) < (2:Int)) then
    some a
  else
    qE (fun (st:Int)=>jB a st) big ((1:Nat):Int) >>= fun _ =>
    some a
def dW (a:List Nat):Option Bool :=
  bj a >>= fun r1 =>
  gA r1 >>= fun r2 =>
  fK r2 >>= fun r3 =>
  some (((r3.length:Nat):Int) == ((a.length:Nat):Int))
def j3 (a:Nat) (b:Nat):Option Nat :=
  bif ((b:Nat):Int) == (0:Int) then
    some 0
  else
    some (te a b) >>= fun x1 =>
    some x1
def j4 (a:Nat) (b:Nat) (c:Nat):Option Nat :=
  j3 a c >>= fun r1 =>
  fX a b r1 >>= fun r2 =>
  some r2
def ee (a:Nat) (b:Nat) (c:Nat) (d:Nat) (e:Nat) (f:Nat):Option (Nat × Nat) :=
  j4 b d a >>= fun r1 =>
  cC b c r1 >>= fun r2 =>
  j4 b f a >>= fun r3 =>
  cC b e r3 >>= fun r4 =>
  some (r2,r4)
def a6 (a:List Nat) (b:Int) (c:Nat) (d:Nat) (e:Nat) (k1:Nat) (x1:Nat) (x2:Nat):Option (Nat × Nat) :=
  a[k1]? >>= fun x6 =>
  bif ((k1:Nat):Int) != b then
    ee x6 c x1 d x2 e >>= fun r2 =>
    some (r2.1,r2.2)
  else
    some (x1,x2)
def bL (a:List Nat) (b:Int) (c:Nat) (d:Nat) (e:Nat) (f:Nat) (g:Nat):Option (Nat × Nat) :=
  ea (fun k1 (st:Nat × Nat)=>a6 a b c e g k1 st.1 st.2) (a.length - 0) 0 (d,f) >>= fun (x4,x5) =>
  some (x4,x5)
def ji (a:Nat) (x1:Nat) (x2:Nat) (x3:Nat):Option (Out (Nat × Nat × Nat) Nat) :=
  bif decide (((x2:Nat):Int) > (0:Int)) then
    some (rz x2 1) >>= fun x6 =>
    bif ((x6:Nat):Int) == (1:Int) then
      cC a x3 x1 >>= fun r2 =>
      cC a x1 x1 >>= fun r3 =>
      pY x2 (1:Int) >>= fun x7 =>
      some (.go (r3,x7,r2))
    else
      cC a x1 x1 >>= fun r4 =>
      pY x2 (1:Int) >>= fun x8 =>
      some (.go (r4,x8,x3))
  else
    some (.fin x3)
def pe (a:Nat) (b:Nat) (c:Nat):Option Nat :=
  qE (fun (st:Nat × Nat × Nat)=>ji a st.1 st.2.1 st.2.2) big (b,c,1) >>= fun x5 =>
  some x5
def hG (a:Nat) (b:Nat):Option (Nat × Int) :=
  bif ((b:Nat):Int) == (0:Int) then
    some (0,((8:Nat):Int))
  else
    some (te a 2) >>= fun x1 =>
    pe a b x1 >>= fun r1 =>
    some (r1,((0:Nat):Int))
def fx (a:Nat) (b:Nat) (c:Nat):Option Nat :=
  hG a c >>= fun r1 =>
  cC a b r1.1 >>= fun r2 =>
  some r2
def dV (a:Nat) (b:List Nat) (c:Nat) (k1:Nat) (l1:List Nat):Option (List Nat) :=
  b[k1]? >>= fun x2 =>
  bL b ((k1:Nat):Int) a 1 c 1 x2 >>= fun r3 =>
  fx a r3.1 r3.2 >>= fun r4 =>
  cY 8 l1 ([r4]:List Nat) >>= fun l3 =>
  some l3
def dj (a:Nat) (b:List Nat) (c:Nat):Option ((List Nat) × Int) :=
  dW b >>= fun r1 =>
  bif !r1 then
    some (([]:List Nat),((1:Nat):Int))
  else
    ea (fun k1 (st:(List Nat))=>dV a b c k1 st) (b.length - 0) 0 ([]:List Nat) >>= fun l2 =>
    some (l2,((0:Nat):Int))
def fL (a:Nat) (r1:(List Nat)) (r2:(List Nat)) (k1:Nat) (l1:List (List Nat)):Option (Out (List (List Nat)) ((List (List Nat)) × Int)) :=
  r2[k1]? >>= fun x6 =>
  dj a r1 x6 >>= fun r4 =>
  bif r4.2 != (0:Int) then
    some (.fin (([]:List (List Nat)),r4.2))
  else
    cY 24 l1 ([r4.1]:List (List Nat)) >>= fun l4 =>
    some (.go l4)
def ep (a:Nat) (b:Int) (c:Int):Option ((List (List Nat)) × Int) :=
  (
    bif decide (b < (1:Int)) then
      some true
    else
      bif decide (b > (26:Int)) then
        some true
      else
        bif decide (c < (1:Int)) then
          some true
        else
          bif decide (c > (26:Int)) then
            some true
          else
            dY b c >>= fun x2 =>
            some (tf x2) >>= fun x3 =>
            some (decide (((x3:Nat):Int) ≥ ((a:Nat):Int)))
  ) >>= fun x1 =>
  bif x1 then
    some (([]:List (List Nat)),((2:Nat):Int))
  else
    dy ((1:Nat):Int) c >>= fun r1 =>
    dY c (1:Int) >>= fun x4 =>
    dy x4 b >>= fun r2 =>
    nM (fun k1 (st:(List (List Nat)))=>fL a r1 r2 k1 st) (r2.length - 0) 0 ([]:List (List Nat)) >>= fun r3=>iA r3 (fun x=>some x) fun l2 =>
    some (l2,((0:Nat):Int))
def rk (a:b0) (b:Int) (c:Int) (k1:Nat) (l1:List (List Nat)):Option (List (List Nat)) :=
  a.Rows[k1]? >>= fun x2 =>
  f5 b (1:Int) >>= fun x3 =>
  eV x2 x3 >>= fun x4 =>
  eV x4 c >>= fun x5 =>
  cY 24 l1 ([x5]:List (List Nat)) >>= fun l3 =>
  some l3
def pM (a:b0) (b:Int) (c:Int):Option (List (List Nat)) :=
  ea (fun k1 (st:(List (List Nat)))=>rk a b c k1 st) (a.Rows.length - 0) 0 ([]:List (List Nat)) >>= fun l2 =>
  some l2
def oJ (a:Nat) (b:Nat) (c:Nat) (d:Nat):Option Nat :=
  cC a d b >>= fun r1 =>
  some r1
def fk (a:Nat) (b:Nat) (c:Nat) (d:Nat):Option Nat :=
  oJ d a b c >>= fun r1 =>
  some r1
def dG (a:List Nat) (b:List Nat) (c:Nat) (d:Nat) (k1:Nat) (l2:List Nat):Option (List Nat) :=
  a[k1]? >>= fun x2 =>
  b[k1]? >>= fun x3 =>
  fk x2 x3 c d >>= fun r2 =>
  l2[k1]? >>= fun x4 =>
  some (l2.set k1 r2) >>= fun l4 =>
  some l4
def b9 (a:List Nat) (b:List Nat) (c:Nat) (d:Nat):Option (List Nat) :=
  og 8 ((a.length:Nat):Int) ((a.length:Nat):Int) (0:Nat) >>= fun l1 =>
  ea (fun k1 (st:(List Nat))=>dG a b c d k1 st) (a.length - 0) 0 l1 >>= fun l3 =>
  some l3
def fJ (a:List Nat) (b:List Nat) (c:Nat) (d:Nat):Option (List Nat) :=
  b9 a b c d >>= fun r1 =>
  some r1
def dE (a:List (List Nat)) (b:List (List Nat)) (c:Nat) (d:Nat) (k1:Nat) (l2:List (List Nat)):Option (List (List Nat)) :=
  a[k1]? >>= fun x2 =>
  b[k1]? >>= fun x3 =>
  fJ x2 x3 c d >>= fun r2 =>
  l2[k1]? >>= fun x4 =>
  some (l2.set k1 r2) >>= fun l4 =>
  some l4
def b8 (a:List (List Nat)) (b:List (List Nat)) (c:Nat) (d:Nat):Option (List (List Nat)) :=
  og 24 ((a.length:Nat):Int) ((a.length:Nat):Int) (([]:List Nat):List Nat) >>= fun l1 =>
  ea (fun k1 (st:(List (List Nat)))=>dE a b c d k1 st) (a.length - 0) 0 l1 >>= fun l3 =>
  some l3
def gm (a:Nat) (b:List (List Nat)) (c:List (List Nat)) (d:Nat):Option (List (List Nat)) :=
  b8 b c d a >>= fun r1 =>
  some r1
def qt (a:Nat) (b:Nat) (c:List (List Nat)):Option (List (List Nat)) :=
  gm a c c b >>= fun r1 =>
  some r1
def ka (a:Nat) (b:Nat) (c:Nat):Option Nat :=
  fX c a b >>= fun r1 =>
  some r1
def bU (a:List Nat) (b:List Nat) (c:Nat) (k1:Nat) (l2:List Nat):Option (List Nat) :=
  a[k1]? >>= fun x2 =>
  b[k1]? >>= fun x3 =>
  ka x2 x3 c >>= fun r2 =>
  l2[k1]? >>= fun x4 =>
  some (l2.set k1 r2) >>= fun l4 =>
  some l4
def cj (a:List Nat) (b:List Nat) (c:Nat):Option (List Nat) :=
  og 8 ((a.length:Nat):Int) ((a.length:Nat):Int) (0:Nat) >>= fun l1 =>
  ea (fun k1 (st:(List Nat))=>bU a b c k1 st) (a.length - 0) 0 l1 >>= fun l3 =>
  some l3
def jA (a:List Nat) (b:List Nat) (c:Nat):Option (List Nat) :=
  cj a b c >>= fun r1 =>
  some r1
def bT (a:List (List Nat)) (b:List (List Nat)) (c:Nat) (k1:Nat) (l2:List (List Nat)):Option (List (List Nat)) :=
  a[k1]? >>= fun x2 =>
  b[k1]? >>= fun x3 =>
  jA x2 x3 c >>= fun r2 =>
  l2[k1]? >>= fun x4 =>
  some (l2.set k1 r2) >>= fun l4 =>
  some l4
def ci (a:List (List Nat)) (b:List (List Nat)) (c:Nat):Option (List (List Nat)) :=
  og 24 ((a.length:Nat):Int) ((a.length:Nat):Int) (([]:List Nat):List Nat) >>= fun l1 =>
  ea (fun k1 (st:(List (List Nat)))=>bT a b c k1 st) (a.length - 0) 0 l1 >>= fun l3 =>
  some l3
def fP (a:Nat) (b:List (List Nat)) (c:List (List Nat)):Option (List (List Nat)) :=
  ci b c a >>= fun r1 =>
  some r1
def nN (a:Nat) (b:List (List Nat)) (c:List (List Nat)):Option (List (List Nat)) :=
  fP a b c >>= fun r1 =>
  some r1
def pB (a:Nat) (b:List (List (List Nat))) (k1:Nat) (l1:List (List Nat)):Option (List (List Nat)) :=
  b[k1]? >>= fun x2 =>
  nN a l1 x2 >>= fun r2 =>
  some r2
def nj (a:Nat) (b:List (List Nat)) (c:List (List (List Nat))):Option (List (List Nat)) :=
  ea (fun k1 (st:(List (List Nat)))=>pB a c k1 st) (c.length - 0) 0 b >>= fun l2 =>
  some l2
def kV (k1:Nat) (x3:Int) (r5:(List Nat) × Int × Int) (k2:Nat) (l7:List (List (List Nat))):Option (List (List (List Nat))) :=
  l7[k1]? >>= fun x7 =>
  lV ((k2:Nat):Int) x3 >>= fun x8 =>
  dY ((k2:Nat):Int) (1:Int) >>= fun x9 =>
  lV x9 x3 >>= fun x10 =>
  nB r5.1 x8 x10 >>= fun l9 =>
  cY 24 x7 ([l9]:List (List Nat)) >>= fun l10 =>
  some (l7.set k1 l10) >>= fun l11 =>
  some l11
def em (a:am) (r1:ac) (r2:Int) (k1:Nat) (l2:List aJ) (l3:List (List (List Nat))):Option ((List aJ) × (List (List (List Nat)))) :=
  dY ((k1:Nat):Int) (1:Int) >>= fun x2 =>
  gM (⟨a.zw,a.az,a.aw,l2⟩:am) x2 >>= fun r4 =>
  dY r1.S.T (1:Int) >>= fun x3 =>
  lV r2 x3 >>= fun x4 =>
  l2[r4]? >>= fun x5 =>
  lN x5 x4 >>= fun r5 =>
  some (l2.set r4 (⟨x5.eQ,r5.2.2⟩:aJ)) >>= fun l6 =>
  mQ (max 0 (r2).toNat) >>= fun u1 =>
  ea (fun k2 (st:(List (List (List Nat))))=>kV k1 x3 r5 k2 st) ((max 0 (r2).toNat) - 0) 0 l3 >>= fun l8 =>
  some (l6,l8)
def kY (r1:ac) (r7:b0 × Int × (List (List ao)) × (List aJ)) (k3:Nat) (x14:List Nat) (k5:Nat) (l16:List (List (List Nat))):Option (List (List (List Nat))) :=
  x14[k5]? >>= fun x16 =>
  dY ((k5:Nat):Int) (1:Int) >>= fun x17 =>
  pM r7.1 x17 ((k3:Nat):Int) >>= fun r12 =>
  qt r1.S.P x16 r12 >>= fun r13 =>
  cY 24 l16 ([r13]:List (List (List Nat))) >>= fun l18 =>
  some l18
def kX (r1:ac) (r7:b0 × Int × (List (List ao)) × (List aJ)) (r8:(List (List Nat)) × Int) (k3:Nat) (k4:Nat) (l14:List (List (List Nat))):Option (List (List (List Nat))) :=
  r8.1[k4]? >>= fun x14 =>
  ea (fun k5 (st:(List (List (List Nat))))=>kY r1 r7 k3 x14 k5 st) (x14.length - 0) 0 ([]:List (List (List Nat))) >>= fun l17 =>
  l17[0]? >>= fun x18 =>
  nB l17 (1:Int) ((l17.length:Nat):Int) >>= fun l19 =>
  nj r1.S.P x18 l19 >>= fun r14 =>
  cY 24 l14 ([r14]:List (List (List Nat))) >>= fun l20 =>
  some l20
def kW (r1:ac) (r7:b0 × Int × (List (List ao)) × (List aJ)) (r8:(List (List Nat)) × Int) (k3:Nat) (l12:List (List (List Nat))):Option (List (List (List Nat))) :=
  ea (fun k4 (st:(List (List (List Nat))))=>kX r1 r7 r8 k3 k4 st) (r8.1.length - 0) 0 l12 >>= fun l15 =>
  some l15
def eY (a:am) (b:Int):Option ((List (List (List Nat))) × Int × (List (List ao)) × (List aJ)) :=
  bif b == (0:Int) then
    some (([]:List (List (List Nat))),a.az,a.aw,a.al)
  else
    cI a >>= fun r1 =>
    iD r1.S b >>= fun r2 =>
    og 24 r1.S.N r1.S.N ([]:List (List Nat)) >>= fun l1 =>
    ea (fun k1 (st:(List aJ) × (List (List (List Nat))))=>em a r1 r2 k1 st.1 st.2) (l1.length - 0) 0 (a.al,l1) >>= fun (l4,l5) =>
    tM (⟨a.zw,a.az,a.aw,l4⟩:am) l5 >>= fun r7 =>
    f5 r1.S.N r1.S.T >>= fun x11 =>
    ep r1.S.P x11 r1.S.N >>= fun r8 =>
    mQ (max 0 (r2).toNat) >>= fun u2 =>
    ea (fun k3 (st:(List (List (List Nat))))=>kW r1 r7 r8 k3 st) ((max 0 (r2).toNat) - 0) 0 ([]:List (List (List Nat))) >>= fun l13 =>
    nB l13 (0:Int) b >>= fun l21 =>
    some (l21,r7.2.1,r7.2.2.1,r7.2.2.2)
def gQ (a:am):Option ((List (List (List Nat))) × Int) :=
  some (([]:List (List (List Nat))),((0:Nat):Int))
def kf (a:List Nat) (b:Nat) (k1:Nat):Option (Out Unit Int) :=
  a[k1]? >>= fun x1 =>
  bif ((b:Nat):Int) == ((x1:Nat):Int) then
    some (.fin ((k1:Nat):Int))
  else
    some (.go ())
def gp (a:List Nat) (b:Nat):Option Int :=
  nM (fun k1 (st:Unit)=>kf a b k1) (a.length - 0) 0 () >>= fun r1=>iA r1 (fun x=>some x) fun _ =>
  some (-1)
def fy (a:List Nat) (b:Nat):Option Bool :=
  gp a b >>= fun r1 =>
  some (decide (r1 ≥ (0:Int)))
def qP (a:Int) (b:List Nat) (c:List (List Nat)) (k1:Nat):Option (Out Unit Bool) :=
  b[k1]? >>= fun x3 =>
  nB b (0:Int) ((k1:Nat):Int) >>= fun l1 =>
  fy l1 x3 >>= fun r2 =>
  bif r2 then
    some (.fin false)
  else
    c[k1]? >>= fun x4 =>
    dY a (1:Int) >>= fun x5 =>
    bif ((x4.length:Nat):Int) != x5 then
      some (.fin false)
    else
      some (.go ())
def pD (a:Int) (b:List Nat) (c:List (List Nat)):Option Bool :=
  (
    bif decide (a < (0:Int)) then
      some true
    else
      bif ((b.length:Nat):Int) != ((c.length:Nat):Int) then
        some true
      else
        dY a (1:Int) >>= fun x2 =>
        some (decide (((c.length:Nat):Int) < x2))
  ) >>= fun x1 =>
  bif x1 then
    some false
  else
    nM (fun k1 (st:Unit)=>qP a b c k1) (b.length - 0) 0 () >>= fun r1=>iA r1 (fun x=>some x) fun _ =>
    some true
def rN (a:Int) (l1:List Nat):Option (Out (List Nat) (List Nat)) :=
  bif decide (((l1.length:Nat):Int)≤a) then
    cY 8 l1 ([0]:List Nat) >>= fun l4 =>
    some (.go l4)
  else
    some (.fin l1)
def li (a:lp) (b:Int) (c:Nat):Option (List Nat) :=
  qE (fun (st:(List Nat))=>rN b st) big a.zf >>= fun l3 =>
  eV l3 b >>= fun x1 =>
  fX a.zp x1 c >>= fun r2 =>
  some (l3.set b.toNat r2) >>= fun l5 =>
  some l5
def sK (a:List Nat) (x2:Int):Option (Out Int (Int ⊕ Unit)) :=
  bif decide (x2 ≥ (0:Int)) then
    eV a x2 >>= fun x3 =>
    bif ((x3:Nat):Int) != (0:Int) then
      some (.fin (.inl x2))
    else
      f5 x2 (1:Int) >>= fun x4 =>
      some (.go x4)
  else
    some (.fin (.inr ()))
def ry (a:List Nat):Option Int :=
  f5 ((a.length:Nat):Int) (1:Int) >>= fun x1 =>
  qE (fun (st:Int)=>sK a st) big x1 >>= fun r1=>Fj r1 (fun x=>some x) fun _ =>
  some (-1)
def ni (a:List Nat):Option (List Nat) :=
  ry a >>= fun r1 =>
  dY r1 (1:Int) >>= fun x1 =>
  nB a (0:Int) x1 >>= fun l1 =>
  cY 8 ([]:List Nat) l1 >>= fun l2 =>
  some l2
def vB (a:Nat) (b:List Nat) (k1:Nat) (x2:Nat) (k2:Nat) (l3:List Nat):Option (List Nat) :=
  b[k2]? >>= fun x4 =>
  dY ((k1:Nat):Int) ((k2:Nat):Int) >>= fun x5 =>
  cC a x2 x4 >>= fun r3 =>
  li (⟨a,l3⟩:lp) x5 r3 >>= fun r4 =>
  some r4
def vA (a:Nat) (b:List Nat) (c:List Nat) (k1:Nat) (l1:List Nat):Option (List Nat) :=
  b[k1]? >>= fun x2 =>
  ea (fun k2 (st:(List Nat))=>vB a c k1 x2 k2 st) (c.length - 0) 0 l1 >>= fun l4 =>
  some l4
def vz (a:Nat) (b:List Nat) (c:List Nat):Option (List Nat) :=
  ea (fun k1 (st:(List Nat))=>vA a b c k1 st) (b.length - 0) 0 ([]:List Nat) >>= fun l2 =>
  ni l2 >>= fun r5 =>
  some r5
def hJ (a:Nat) (b:Nat) (c:List Nat) (d:Nat) (e:br):Option ((List Nat) × Nat) :=
  j3 b a >>= fun r1 =>
  vz b c ([r1,1]:List Nat) >>= fun r2 =>
  j4 b e.X a >>= fun r3 =>
  cC b d r3 >>= fun r4 =>
  some (r2,r4)
def bR (a:List Nat) (b:Int) (c:Nat) (d:br) (k1:Nat) (l1:List Nat) (x1:Nat):Option ((List Nat) × Nat) :=
  a[k1]? >>= fun x4 =>
  bif ((k1:Nat):Int) != b then
    hJ x4 c l1 x1 d >>= fun r2 =>
    some (r2.1,r2.2)
  else
    some (l1,x1)
def dt (a:List Nat) (b:Int) (c:Nat) (d:List Nat) (e:Nat) (f:br):Option ((List Nat) × Nat) :=
  ea (fun k1 (st:(List Nat) × Nat)=>bR a b c f k1 st.1 st.2) (a.length - 0) 0 (d,e) >>= fun (l2,x3) =>
  some (l2,x3)
def ta (a:Nat) (b:Nat) (c:List Nat) (k1:Nat) (l2:List Nat):Option (List Nat) :=
  c[k1]? >>= fun x2 =>
  cC a b x2 >>= fun r2 =>
  l2[k1]? >>= fun x3 =>
  some (l2.set k1 r2) >>= fun l4 =>
  some l4
def sL (a:Nat) (b:Nat) (c:List Nat):Option (List Nat) :=
  og 8 ((c.length:Nat):Int) ((c.length:Nat):Int) (0:Nat) >>= fun l1 =>
  ea (fun k1 (st:(List Nat))=>ta a b c k1 st) (c.length - 0) 0 l1 >>= fun l3 =>
  ni l3 >>= fun r3 =>
  some r3
def vx (a:Nat) (b:List Nat) (k1:Nat) (l1:List Nat):Option (List Nat) :=
  b[k1]? >>= fun x2 =>
  li (⟨a,l1⟩:lp) ((k1:Nat):Int) x2 >>= fun r2 =>
  some r2
def vy (a:Nat) (b:List Nat) (k2:Nat) (l3:List Nat):Option (List Nat) :=
  b[k2]? >>= fun x4 =>
  li (⟨a,l3⟩:lp) ((k2:Nat):Int) x4 >>= fun r4 =>
  some r4
def vw (a:Nat) (b:List Nat) (c:List Nat):Option (List Nat) :=
  ea (fun k1 (st:(List Nat))=>vx a b k1 st) (b.length - 0) 0 ([]:List Nat) >>= fun l2 =>
  ea (fun k2 (st:(List Nat))=>vy a c k2 st) (c.length - 0) 0 l2 >>= fun l4 =>
  ni l4 >>= fun r5 =>
  some r5
def lT (a:List br) (k1:Nat) (l1:List Nat):Option (List Nat) :=
  a[k1]? >>= fun x2 =>
  cY 8 l1 ([x2.X]:List Nat) >>= fun l3 =>
  some l3
def lU (a:Nat) (b:List br) (l2:List Nat) (k2:Nat) (l4:List Nat):Option (List Nat) :=
  b[k2]? >>= fun x4 =>
  dt l2 ((k2:Nat):Int) a ([1]:List Nat) 1 x4 >>= fun r4 =>
  fx a x4.Y r4.2 >>= fun r5 =>
  sL a r5 r4.1 >>= fun r6 =>
  vw a l4 r6 >>= fun r7 =>
  some r7
def jk (a:Nat) (b:List br):Option ((List Nat) × Int) :=
  ea (fun k1 (st:(List Nat))=>lT b k1 st) (b.length - 0) 0 ([]:List Nat) >>= fun l2 =>
  dW l2 >>= fun r2 =>
  bif !r2 then
    some (([]:List Nat),((1:Nat):Int))
  else
    ea (fun k2 (st:(List Nat))=>lU a b l2 k2 st) (b.length - 0) 0 ([]:List Nat) >>= fun l5 =>
    ni l5 >>= fun r8 =>
    some (r8,((0:Nat):Int))
def pu (a:List Nat) (b:List (List Nat)) (c:Int) (k1:Nat) (l1:List br):Option (List br) :=
  a[k1]? >>= fun x3 =>
  b[k1]? >>= fun x4 =>
  eV x4 c >>= fun x5 =>
  cY 16 l1 ([(⟨x3,x5⟩:br)]:List br) >>= fun l3 =>
  some l3
def mT (a:Nat) (b:Int) (c:List Nat) (d:List (List Nat)) (e:Int):Option ((List Nat) × Int) :=
  dY b (1:Int) >>= fun x1 =>
  mQ (max 0 (x1).toNat) >>= fun u1 =>
  ea (fun k1 (st:(List br))=>pu c d e k1 st) ((max 0 (x1).toNat) - 0) 0 ([]:List br) >>= fun l2 =>
  jk a l2 >>= fun r2 =>
  og 8 x1 x1 (0:Nat) >>= fun l4 =>
  some (uZ l4 r2.1,r2.2)
def mr (a:List (List Nat)) (k1:Nat):Option (Out Unit Bool) :=
  a[k1]? >>= fun x1 =>
  bif ((x1.length:Nat):Int) != ((a.length:Nat):Int) then
    some (.fin false)
  else
    some (.go ())
def mu (a:List (List Nat)) (k2:Nat) (x2:List Nat) (k3:Nat):Option (Out Unit Bool) :=
  x2[k3]? >>= fun x3 =>
  a[k3]? >>= fun x4 =>
  x4[k2]? >>= fun x5 =>
  bif ((x3:Nat):Int) != ((x5:Nat):Int) then
    some (.fin false)
  else
    some (.go ())
def ms (a:List (List Nat)) (k2:Nat):Option (Out Unit Bool) :=
  a[k2]? >>= fun x2 =>
  mQ k2 >>= fun u1 =>
  nM (fun k3 (st:Unit)=>mu a k2 x2 k3) (k2 - 0) 0 () >>= fun r3=>iA r3 (fun x=>some (.fin x)) fun _ =>
  some (.go ())
def jO (a:List (List Nat)):Option Bool :=
  nM (fun k1 (st:Unit)=>mr a k1) (a.length - 0) 0 () >>= fun r1=>iA r1 (fun x=>some x) fun _ =>
  nM (fun k2 (st:Unit)=>ms a k2) (a.length - 0) 0 () >>= fun r2=>iA r2 (fun x=>some x) fun _ =>
  some (decide (((a.length:Nat):Int) > (0:Int)))
def kb (a:List Nat) (b:List Nat) (k1:Nat):Option (Out Unit Bool) :=
  a[k1]? >>= fun x1 =>
  b[k1]? >>= fun x2 =>
  bif ((x1:Nat):Int) != ((x2:Nat):Int) then
    some (.fin false)
  else
    some (.go ())
def gn (a:List Nat) (b:List Nat):Option Bool :=
  bif ((a.length:Nat):Int) != ((b.length:Nat):Int) then
    some false
  else
    nM (fun k1 (st:Unit)=>kb a b k1) (a.length - 0) 0 () >>= fun r1=>iA r1 (fun x=>some x) fun _ =>
    some true
def mp (r3:(List Nat) × Int) (k2:Nat) (l5:List (List Nat)):Option (List (List Nat)) :=
  l5[k2]? >>= fun x4 =>
  r3.1[k2]? >>= fun x5 =>
  cY 8 x4 ([x5]:List Nat) >>= fun l7 =>
  some (l5.set k2 l7) >>= fun l8 =>
  some l8
def mo (a:Nat) (b:Int) (c:List Nat) (d:List (List Nat)) (k1:Nat) (l2:List (List Nat)):Option (Out (List (List Nat)) ((List (List Nat)) × Int)) :=
  mT a b c d ((k1:Nat):Int) >>= fun r3 =>
  bif r3.2 != (0:Int) then
    some (.fin (([]:List (List Nat)),((6:Nat):Int)))
  else
    ea (fun k2 (st:(List (List Nat)))=>mp r3 k2 st) (l2.length - 0) 0 l2 >>= fun l6 =>
    some (.go l6)
def mq (a:Nat) (b:List Nat) (c:List (List Nat)) (l3:List (List Nat)) (k3:Nat):Option (Out Unit ((List (List Nat)) × Int)) :=
  b[k3]? >>= fun x6 =>
  gY a l3 x6 >>= fun r7 =>
  c[k3]? >>= fun x7 =>
  gn r7 x7 >>= fun r8 =>
  bif !r8 then
    some (.fin (([]:List (List Nat)),((6:Nat):Int)))
  else
    some (.go ())
def jN (a:Nat) (b:Int) (c:List Nat) (d:List (List Nat)):Option ((List (List Nat)) × Int) :=
  pD b c d >>= fun r1 =>
  bif !r1 then
    some (([]:List (List Nat)),((1:Nat):Int))
  else
    dY b (1:Int) >>= fun x1 =>
    og 24 x1 x1 ([]:List Nat) >>= fun l1 =>
    nM (fun k1 (st:(List (List Nat)))=>mo a b c d k1 st) (l1.length - 0) 0 l1 >>= fun r2=>iA r2 (fun x=>some x) fun l3 =>
    jO l3 >>= fun r5 =>
    bif !r5 then
      some (([]:List (List Nat)),((6:Nat):Int))
    else
      nM (fun k3 (st:Unit)=>mq a c d l3 k3) (c.length - 0) 0 () >>= fun r6=>iA r6 (fun x=>some x) fun _ =>
      some (l3,((0:Nat):Int))
def fO (a:aL) (b:Int):Option Int :=
  iD a b >>= fun r1 =>
  dY a.T (1:Int) >>= fun x1 =>
  lV a.T x1 >>= fun x2 =>
  vZ x2 (2:Int) >>= fun x3 =>
  dY x1 x3 >>= fun x4 =>
  lV r1 x4 >>= fun x5 =>
  some x5
def iy (a:am):Option Int :=
  some a.az
def iB  : Option Bool :=
  kD >>= fun r1 =>
  rt r1 >>= fun r2 =>
  D3 r2 (fun r3 =>
    some false)
  (fun r4 =>
    eY r4 ((3:Nat):Int) >>= fun r5 =>
    (
      bif ((r5.1.length:Nat):Int) != (3:Int) then
        some true
      else
        r5.1[0]? >>= fun x2 =>
        some (((x2.length:Nat):Int) != (4:Int))
    ) >>= fun x1 =>
    bif x1 then
      some false
    else
      gQ r4 >>= fun r6 =>
      r5.1[0]? >>= fun x3 =>
      jN 31 ((1:Nat):Int) ([1,2,3,4]:List Nat) x3 >>= fun r7 =>
      fO (⟨31,((4:Nat):Int),((1:Nat):Int)⟩:aL) ((0:Nat):Int) >>= fun r8 =>
      bif r8 == (0:Int) then
        fO (⟨31,((4:Nat):Int),((1:Nat):Int)⟩:aL) ((3:Nat):Int) >>= fun r9 =>
        bif r9 == (3:Int) then
          fO (⟨31,((4:Nat):Int),((1:Nat):Int)⟩:aL) ((4:Nat):Int) >>= fun r10 =>
          bif r10 == (6:Int) then
            gM (⟨r4.zw,r5.2.1,r5.2.2.1,r5.2.2.2⟩:am) ((1:Nat):Int) >>= fun r11 =>
            r5.2.2.2[r11]? >>= fun x4 =>
            gX x4 >>= fun r12 =>
            bif r12 == (0:Int) then
              iy (⟨r4.zw,r5.2.1,r5.2.2.1,r5.2.2.2⟩:am) >>= fun r13 =>
              bif r13 == (7:Int) then
                eY r4 ((0:Nat):Int) >>= fun r14 =>
                bif ((r14.1.length:Nat):Int) == (0:Int) then
                  iy (⟨r4.zw,r14.2.1,r14.2.2.1,r14.2.2.2⟩:am) >>= fun r15 =>
                  bif r15 == (0:Int) then
                    bif ((r6.1.length:Nat):Int) == (0:Int) then
                      bif r6.2 == (0:Int) then
                        some (r7.2 == (0:Int))
                      else
                        some false
                    else
                      some false
                  else
                    some false
                else
                  some false
              else
                some false
            else
              some false
          else
            some false
        else
          some false
      else
        some false)
def jp  : Option (List Int) :=
  some ([((5:Nat):Int),((7:Nat):Int),((13:Nat):Int),((17:Nat):Int),((19:Nat):Int),((31:Nat):Int),((61:Nat):Int)]:List Int)
def dZ (a:Nat) (r1:(List Int)) (k1:Nat):Option (Out Unit Int) :=
  r1[k1]? >>= fun x1 =>
  some (tf x1) >>= fun x2 =>
  wt 1 ((x2:Nat):Int) >>= fun x3 =>
  some (te x3 1) >>= fun x4 =>
  bif ((a:Nat):Int) == ((x4:Nat):Int) then
    some (.fin x1)
  else
    some (.go ())
def fZ (a:Nat):Option Int :=
  jp >>= fun r1 =>
  nM (fun k1 (st:Unit)=>dZ a r1 k1) (r1.length - 0) 0 () >>= fun r2=>iA r2 (fun x=>some x) fun _ =>
  some ((0:Nat):Int)
def eu (a:Nat):Option Bool :=
  fZ a >>= fun r1 =>
  some (decide (r1 > (0:Int)))
def eO (a:aL):Option Bool :=
  eu a.P >>= fun r1 =>
  bif r1 then
    bif decide (a.N ≥ (4:Int)) then
      bif decide (a.N≤(13:Int)) then
        some (tf a.N) >>= fun x1 =>
        bif decide (((x1:Nat):Int) < ((a.P:Nat):Int)) then
          bif decide (a.T ≥ (1:Int)) then
            bif decide (a.T < a.N) then
              lV (3:Int) a.T >>= fun x2 =>
              some (decide (x2 < a.N))
            else
              some false
          else
            some false
        else
          some false
      else
        some false
    else
      some false
  else
    some false
def dX (a:aL) (b:List Int) (k1:Nat):Option (Out Unit Bool) :=
  b[k1]? >>= fun x2 =>
  bif decide (x2 < (1:Int)) then
    some (.fin false)
  else
    bif decide (x2 > a.N) then
      some (.fin false)
    else
      bif decide (((k1:Nat):Int) > (0:Int)) then
        f5 ((k1:Nat):Int) (1:Int) >>= fun x3 =>
        eV b x3 >>= fun x4 =>
        bif decide (x2≤x4) then
          some (.fin false)
        else
          some (.go ())
      else
        some (.go ())
def dm (a:aL) (b:List Int):Option Bool :=
  (
    eO a >>= fun r1 =>
    bif !r1 then
      some true
    else
      some (decide (((b.length:Nat):Int) > a.T))
  ) >>= fun x1 =>
  bif x1 then
    some false
  else
    nM (fun k1 (st:Unit)=>dX a b k1) (b.length - 0) 0 () >>= fun r2=>iA r2 (fun x=>some x) fun _ =>
    some true
def eA (a:aL) (b:aF):Option Bool :=
  bif decide (b.Round ≥ (0:Int)) then
    bif decide (b.At ≥ (0:Int)) then
      bif decide (b.a9 ≥ (0:Int)) then
        bif decide (b.From ≥ (1:Int)) then
          bif decide (b.From≤a.N) then
            bif decide (b.To ≥ (0:Int)) then
              bif decide (b.To≤a.N) then
                bif decide (b.Kind ≥ (1:Int)) then
                  bif decide (b.Kind≤(4:Int)) then
                    bif decide (b.Of ≥ (0:Int)) then
                      bif decide (b.Of≤a.N) then
                        bif b.Kind != (3:Int) then
                          some true
                        else
                          some (decide (b.Of ≥ (1:Int)))
                      else
                        some false
                    else
                      some false
                  else
                    some false
                else
                  some false
              else
                some false
            else
              some false
          else
            some false
        else
          some false
      else
        some false
    else
      some false
  else
    some false
def f3 (a:Nat) (b:List Nat) (k1:Nat):Option (Out Unit Bool) :=
  b[k1]? >>= fun x1 =>
  bif decide (((x1:Nat):Int) ≥ ((a:Nat):Int)) then
    some (.fin false)
  else
    some (.go ())
def fM (a:Nat) (b:List Nat):Option Bool :=
  nM (fun k1 (st:Unit)=>f3 a b k1) (b.length - 0) 0 () >>= fun r1=>iA r1 (fun x=>some x) fun _ =>
  some true
def ef (a:ac) (k1:Nat):Option (Out Unit Bool) :=
  a.aa[k1]? >>= fun x2 =>
  eA a.S x2 >>= fun r4 =>
  bif !r4 then
    some (.fin false)
  else
    some (.go ())
def eg (a:ac) (k2:Nat):Option (Out Unit Bool) :=
  a.aE[k2]? >>= fun x3 =>
  fM a.S.P x3 >>= fun r6 =>
  bif !r6 then
    some (.fin false)
  else
    some (.go ())
def cJ (a:ac):Option Bool :=
  (
    eO a.S >>= fun r1 =>
    bif !r1 then
      some true
    else
      dm a.S a.ae >>= fun r2 =>
      bif !r2 then
        some true
      else
        some (((a.aE.length:Nat):Int) != a.S.N)
  ) >>= fun x1 =>
  bif x1 then
    some false
  else
    nM (fun k1 (st:Unit)=>ef a k1) (a.aa.length - 0) 0 () >>= fun r3=>iA r3 (fun x=>some x) fun _ =>
    nM (fun k2 (st:Unit)=>eg a k2) (a.aE.length - 0) 0 () >>= fun r5=>iA r5 (fun x=>some x) fun _ =>
    some true
def gz (a:ac) (b:Int) (k1:Nat):Option (Out Unit Bool) :=
  a.aE[k1]? >>= fun x2 =>
  bif decide (((x2.length:Nat):Int) > b) then
    some (.fin false)
  else
    some (.go ())
def gk (a:ac) (b:Int) (c:Int):Option Bool :=
  (
    bif decide (((a.aa.length:Nat):Int) > b) then
      some true
    else
      bif decide (((a.aE.length:Nat):Int) > (13:Int)) then
        some true
      else
        some (decide (((a.ae.length:Nat):Int) > (13:Int)))
  ) >>= fun x1 =>
  bif x1 then
    some false
  else
    nM (fun k1 (st:Unit)=>gz a c k1) (a.aE.length - 0) 0 () >>= fun r1=>iA r1 (fun x=>some x) fun _ =>
    cJ a >>= fun r2 =>
    some r2
def fN (a:ac) (b:Int) (k1:Nat):Option (Out Unit Bool) :=
  a.ae[k1]? >>= fun x1 =>
  bif x1 == b then
    some (.fin false)
  else
    some (.go ())
def fu (a:ac) (b:Int):Option Bool :=
  nM (fun k1 (st:Unit)=>fN a b k1) (a.ae.length - 0) 0 () >>= fun r1=>iA r1 (fun x=>some x) fun _ =>
  some true
def mH (a:List Nat) (b:List (List Nat)):Option Bool :=
  b[0]? >>= fun x1 =>
  some (((a.length:Nat):Int) != ((x1.length:Nat):Int))
def bG (a:List (List Nat)) (b:List (List Nat)) (k1:Nat):Option (Out Unit Int) :=
  a[k1]? >>= fun x1 =>
  mH x1 b >>= fun r2 =>
  bif r2 then
    some (.fin ((k1:Nat):Int))
  else
    some (.go ())
def bO (a:List (List Nat)) (b:List (List Nat)):Option Int :=
  nM (fun k1 (st:Unit)=>bG a b k1) (a.length - 0) 0 () >>= fun r1=>iA r1 (fun x=>some x) fun _ =>
  some (-1)
def bF (a:List (List Nat)) (b:List (List Nat)):Option Bool :=
  bO a b >>= fun r1 =>
  some (decide (r1 ≥ (0:Int)))
def mb (a:List (List Nat)):Option Bool :=
  bF a a >>= fun r1 =>
  some (!r1)
def ma (a:List (List Nat)):Option Int :=
  bif ((a.length:Nat):Int) == (0:Int) then
    some ((0:Nat):Int)
  else
    a[0]? >>= fun x1 =>
    some ((x1.length:Nat):Int)
def mI (a:List (List Nat)):Option Bool :=
  bif decide (((a.length:Nat):Int) > (0:Int)) then
    mb a >>= fun r1 =>
    bif r1 then
      ma a >>= fun r2 =>
      some (((a.length:Nat):Int) == r2)
    else
      some false
  else
    some false
def j7 (k1:Nat) (l1:List (List Nat)):Option (List (List Nat)) :=
  l1[k1]? >>= fun x2 =>
  bj x2 >>= fun r3 =>
  some (l1.set k1 r3) >>= fun l3 =>
  some l3
def eG (l4:List (List Nat)) (k2:Nat) (x6:Int) (x7:Int):Option (Out (Int × Int) Int) :=
  (
    bif decide (x7 < ((l4.length:Nat):Int)) then
      some (decide (x6 < (0:Int)))
    else
      some false
  ) >>= fun x10 =>
  bif x10 then
    eV l4 x7 >>= fun x11 =>
    x11[k2]? >>= fun x12 =>
    bif ((x12:Nat):Int) != (0:Int) then
      dY x7 (1:Int) >>= fun x13 =>
      some (.go (x7,x13))
    else
      dY x7 (1:Int) >>= fun x14 =>
      some (.go (x6,x14))
  else
    some (.fin x6)
def gJ (a:Nat) (l5:List Int) (x18:List Nat) (r8:Nat × Int) (k3:Nat) (l10:List (List Nat)):Option (List (List Nat)) :=
  x18[k3]? >>= fun x21 =>
  l10[l5.length]? >>= fun x22 =>
  x22[k3]? >>= fun x23 =>
  cC a r8.1 x23 >>= fun r10 =>
  some (x22.set k3 r10) >>= fun l12 =>
  some (l10.set l5.length l12) >>= fun l13 =>
  some l13
def gL (a:Nat) (l5:List Int) (k4:Nat) (x25:List Nat) (x28:Nat) (x29:List Nat) (k5:Nat) (l16:List (List Nat)):Option (List (List Nat)) :=
  x29[k5]? >>= fun x31 =>
  l16[l5.length]? >>= fun x32 =>
  x32[k5]? >>= fun x33 =>
  x25[k5]? >>= fun x34 =>
  l16[k4]? >>= fun x35 =>
  x35[k5]? >>= fun x36 =>
  cC a x28 x33 >>= fun r13 =>
  j4 a x36 r13 >>= fun r14 =>
  some (x35.set k5 r14) >>= fun l18 =>
  some (l16.set k4 l18) >>= fun l19 =>
  some l19
def gK (a:Nat) (l5:List Int) (k2:Nat) (k4:Nat) (l14:List (List Nat)):Option (List (List Nat)) :=
  l14[k4]? >>= fun x25 =>
  (
    bif ((k4:Nat):Int) == ((l5.length:Nat):Int) then
      some true
    else
      x25[k2]? >>= fun x27 =>
      some (((x27:Nat):Int) == (0:Int))
  ) >>= fun x26 =>
  bif x26 then
    some l14
  else
    x25[k2]? >>= fun x28 =>
    l14[l5.length]? >>= fun x29 =>
    mQ x29.length >>= fun u4 =>
    ea (fun k5 (st:(List (List Nat)))=>gL a l5 k4 x25 x28 x29 k5 st) (x29.length - 0) 0 l14 >>= fun l17 =>
    some l17
def eE (a:Nat) (k2:Nat) (l4:List (List Nat)) (l5:List Int) (x3:Nat):Option ((List (List Nat)) × (List Int) × Nat) :=
  qE (fun (st:Int × Int)=>eG l4 k2 st.1 st.2) big ((-1),((l5.length:Nat):Int)) >>= fun x9 =>
  bif decide (x9 < (0:Int)) then
    some (l4,l5,x3)
  else
    (
      bif x9 != ((l5.length:Nat):Int) then
        l4[l5.length]? >>= fun x16 =>
        eV l4 x9 >>= fun x17 =>
        some ((l4.set x9.toNat x16).set l5.length x17) >>= fun l9 =>
        j3 a x3 >>= fun r6 =>
        some (l9,r6)
      else
        some (l4,x3)
    ) >>= fun (l8,x15) =>
    l8[l5.length]? >>= fun x18 =>
    x18[k2]? >>= fun x19 =>
    cC a x15 x19 >>= fun r7 =>
    hG a x19 >>= fun r8 =>
    mQ x18.length >>= fun u3 =>
    ea (fun k3 (st:(List (List Nat)))=>gJ a l5 x18 r8 k3 st) (x18.length - 0) 0 l8 >>= fun l11 =>
    ea (fun k4 (st:(List (List Nat)))=>gK a l5 k2 k4 st) (l11.length - 0) 0 l11 >>= fun l15 =>
    cY 8 l5 ([((k2:Nat):Int)]:List Int) >>= fun l20 =>
    some (l15,l20,r7)
def kj (a:Nat) (b:List (List Nat)) (c:Int):Option il :=
  bg b >>= fun r1 =>
  mQ r1.length >>= fun u1 =>
  ea (fun k1 (st:(List (List Nat)))=>j7 k1 st) (r1.length - 0) 0 r1 >>= fun l2 =>
  mQ (max 0 (c).toNat) >>= fun u2 =>
  ea (fun k2 (st:(List (List Nat)) × (List Int) × Nat)=>eE a k2 st.1 st.2.1 st.2.2) ((max 0 (c).toNat) - 0) 0 (l2,([]:List Int),1) >>= fun (l6,l7,x5) =>
  some (⟨a,l6,l7,x5⟩:il)
def jm (a:List (List Nat)) (k1:Nat) (l1:List (List Nat)):Option (List (List Nat)) :=
  a[k1]? >>= fun x2 =>
  og 8 ((a.length:Nat):Int) ((a.length:Nat):Int) (0:Nat) >>= fun l3 =>
  l3[k1]? >>= fun x3 =>
  some (l3.set k1 1) >>= fun l4 =>
  bj x2 >>= fun r3 =>
  cY 8 r3 l4 >>= fun l5 =>
  cY 24 l1 ([l5]:List (List Nat)) >>= fun l6 =>
  some l6
def l0 (a:List (List Nat)) (r4:il) (k2:Nat) (l7:List (List Nat)):Option (List (List Nat)) :=
  r4.zm[k2]? >>= fun x5 =>
  nB x5 ((a.length:Nat):Int) ((x5.length:Nat):Int) >>= fun l9 =>
  cY 24 l7 ([l9]:List (List Nat)) >>= fun l10 =>
  some l10
def jl (a:Nat) (b:List (List Nat)):Option ((List (List Nat)) × Int) :=
  mI b >>= fun r1 =>
  bif !r1 then
    some (([]:List (List Nat)),((1:Nat):Int))
  else
    ea (fun k1 (st:(List (List Nat)))=>jm b k1 st) (b.length - 0) 0 ([]:List (List Nat)) >>= fun l2 =>
    kj a l2 ((b.length:Nat):Int) >>= fun r4 =>
    bif decide (((r4.zpivot.length:Nat):Int) < ((b.length:Nat):Int)) then
      some (([]:List (List Nat)),((8:Nat):Int))
    else
      ea (fun k2 (st:(List (List Nat)))=>l0 b r4 k2 st) (r4.zm.length - 0) 0 ([]:List (List Nat)) >>= fun l8 =>
      some (l8,((0:Nat):Int))
def bf (a:aL) (b:List Int) (l2:List (List Nat)) (r3:(List (List Nat)) × Int) (k1:Nat) (l5:List Nat) (x5:Int):Option (Out ((List Nat) × Int) (List Nat)) :=
  (
    bif decide (x5 < a.N) then
      r3.1[k1]? >>= fun x7 =>
      some (decide (x5 < ((x7.length:Nat):Int)))
    else
      some false
  ) >>= fun x6 =>
  bif x6 then
    dY x5 (1:Int) >>= fun x8 =>
    fu (⟨a,b,([]:List aF),l2⟩:ac) x8 >>= fun r6 =>
    bif r6 then
      r3.1[k1]? >>= fun x9 =>
      eV x9 x5 >>= fun x10 =>
      cY 8 l5 ([x10]:List Nat) >>= fun l8 =>
      some (.go (l8,x8))
    else
      some (.go (l5,x8))
  else
    some (.fin l5)
def bm (a:aL) (b:List Int) (l2:List (List Nat)) (r3:(List (List Nat)) × Int) (k1:Nat) (l3:List (List Nat)):Option (List (List Nat)) :=
  qE (fun (st:(List Nat) × Int)=>bf a b l2 r3 k1 st.1 st.2) big (([]:List Nat),((0:Nat):Int)) >>= fun l7 =>
  cY 24 l3 ([l7]:List (List Nat)) >>= fun l9 =>
  some l9
def ct (a:aL) (b:List Int):Option Bool :=
  iB >>= fun r1 =>
  bif !r1 then
    some false
  else
    og 24 (13:Int) (13:Int) (([]:List Nat):List Nat) >>= fun l1 =>
    (
      bif decide (a.N < (4:Int)) then
        some true
      else
        bif decide (a.N > (13:Int)) then
          some true
        else
          some (decide (((b.length:Nat):Int) > (4:Int)))
    ) >>= fun x1 =>
    bif x1 then
      some true
    else
      nB l1 (0:Int) a.N >>= fun l2 =>
      (
        gk (⟨a,b,([]:List aF),l2⟩:ac) ((0:Nat):Int) ((0:Nat):Int) >>= fun r2 =>
        bif !r2 then
          some true
        else
          some (((b.length:Nat):Int) != a.T)
      ) >>= fun x2 =>
      bif x2 then
        some true
      else
        f5 a.N a.T >>= fun x3 =>
        ep a.P x3 a.N >>= fun r3 =>
        bif r3.2 != (0:Int) then
          some false
        else
          ea (fun k1 (st:(List (List Nat)))=>bm a b l2 r3 k1 st) (r3.1.length - 0) 0 ([]:List (List Nat)) >>= fun l4 =>
          jl a.P l4 >>= fun r7 =>
          some (r7.2 == (0:Int))
end Pu
