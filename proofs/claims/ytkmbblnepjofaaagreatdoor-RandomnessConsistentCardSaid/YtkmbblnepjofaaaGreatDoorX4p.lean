/- Plain functions: what the Go functions compute, over lists and numbers, in Option (none: a run that is not followed). No Go in it. Printed by a program of this claim. -/
import Derived.Test.YtkmbblnepjofaaaGreatDoorWd
set_option linter.unusedVariables false
namespace Pu
open Gw
structure aH where
  P:Nat
  N:Int
  T:Int
structure aM where
  Round:Int
  From:Int
  To:Int
  At:Int
  Kind:Int
  K:Nat
  Of:Int
  bi:Int
structure ab where
  S:aH
  af:List Int
  aa:List aM
  ax:List (List Nat)
structure al where
  Round:Int
  From:Int
  H5:List Nat
structure ay where
  gD:List Nat
  zat:Int
structure ap where
  zw:ab
  ah:Int
  au:List (List al)
  am:List ay
structure aF where
  S:List (List (List (List Nat)))
  Rows:List (List (List (List Nat)))
  az:List (List (List Nat))
structure ai where
  zn:ap
  zs:aH
  zq:List (List (List Nat))
  zd:aF
structure av where
  zn:ap
  zp:Nat
  zd:aF
  aL:List (List Bool)
  bJ:List (List Bool)
  cH:List (List (List (List Nat)))
structure bK where
  e0:Int
  e1:Int
structure lL where
  zl:List Nat
structure bm where
  Rows:List (List (List (List Nat)))
  gN:List Bool
structure bH where
  X:Nat
  Y:Nat
structure mQ where
  zp:Nat
  zf:List Nat
def mh  : Option ab :=
  some (⟨(⟨31,((4:Nat):Int),((1:Nat):Int)⟩:aH),([]:List Int),([]:List aM),([([1,2,3]:List Nat),([4,5,6]:List Nat),([7,8,9]:List Nat),([10,11,12]:List Nat)]:List (List Nat))⟩:ab)
def rT (a:Nat) (k1:Nat):Option (Out Unit Int) :=
  ([5,7,13,17,19,31,61]:List Int)[k1]? >>= fun x1 =>
  yc 1 x1 >>= fun x2 =>
  some (uT x2 1) >>= fun x3 =>
  bif ((a:Nat):Int) == ((x3:Nat):Int) then
    some (.fin x1)
  else
    some (.go ())
def qh (a:Nat):Option Int :=
  pa 7 >>= fun u1 =>
  nq (fun k1 (st:Unit)=>rT a k1) (7 - 0) 0 () >>= fun r1=>kB r1 (fun x=>some x) fun _ =>
  some ((0:Nat):Int)
def mt (a:Nat):Option Bool :=
  qh a >>= fun r1 =>
  some (r1 != (0:Int))
def mH (a:aH):Option Bool :=
  mt a.P >>= fun r1 =>
  bif r1 then
    bif decide (a.N ≥ (4:Int)) then
      bif decide (a.N≤(13:Int)) then
        some (qP a.N) >>= fun x1 =>
        bif decide (((x1:Nat):Int) < ((a.P:Nat):Int)) then
          bif decide (a.T ≥ (1:Int)) then
            bif decide (a.T < a.N) then
              mf (3:Int) a.T >>= fun x2 =>
              some (decide (x2 < a.N))
            else
              some false
          else
            some false
        else
          some false
      else
        some false
    else
      some false
  else
    some false
def hZ (a:aH) (b:List Int) (k1:Nat):Option (Out Unit Bool) :=
  b[k1]? >>= fun x2 =>
  bif decide (x2 < (1:Int)) then
    some (.fin false)
  else
    bif decide (x2 > a.N) then
      some (.fin false)
    else
      bif decide (((k1:Nat):Int) > (0:Int)) then
        kj ((k1:Nat):Int) (1:Int) >>= fun x3 =>
        iK b x3 >>= fun x4 =>
        bif decide (x4 ≥ x2) then
          some (.fin false)
        else
          some (.go ())
      else
        some (.go ())
def gF (a:aH) (b:List Int):Option Bool :=
  (
    mH a >>= fun r1 =>
    bif !r1 then
      some true
    else
      some (decide (((b.length:Nat):Int) > a.T))
  ) >>= fun x1 =>
  bif x1 then
    some false
  else
    nq (fun k1 (st:Unit)=>hZ a b k1) (b.length - 0) 0 () >>= fun r2=>kB r2 (fun x=>some x) fun _ =>
    some true
def pp (a:aH) (b:aM):Option Bool :=
  (
    bif b.Kind == (3:Int) then
      some ((1:Nat):Int)
    else
      some ((0:Nat):Int)
  ) >>= fun x1 =>
  bif decide (b.Round ≥ (0:Int)) then
    bif decide (b.At ≥ (0:Int)) then
      bif decide (b.bi ≥ (0:Int)) then
        bif decide (b.From ≥ (1:Int)) then
          bif decide (b.From≤a.N) then
            bif decide (b.To ≥ (0:Int)) then
              bif decide (b.To≤a.N) then
                bif decide (b.Kind ≥ (1:Int)) then
                  bif decide (b.Kind≤(4:Int)) then
                    bif decide (b.Of ≥ x1) then
                      some (decide (b.Of≤a.N))
                    else
                      some false
                  else
                    some false
                else
                  some false
              else
                some false
            else
              some false
          else
            some false
        else
          some false
      else
        some false
    else
      some false
  else
    some false
def iP (a:aM) (b:ab):Option Bool :=
  pp b.S a >>= fun r1 =>
  some (!r1)
def bu (a:List aM) (b:ab) (k1:Nat):Option (Out Unit Int) :=
  a[k1]? >>= fun x1 =>
  iP x1 b >>= fun r2 =>
  bif r2 then
    some (.fin ((k1:Nat):Int))
  else
    some (.go ())
def bE (a:List aM) (b:ab):Option Int :=
  nq (fun k1 (st:Unit)=>bu a b k1) (a.length - 0) 0 () >>= fun r1=>kB r1 (fun x=>some x) fun _ =>
  some (-1)
def aZ (a:List aM) (b:ab):Option Bool :=
  bE a b >>= fun r1 =>
  some (decide (r1 ≥ (0:Int)))
def ia (a:Nat) (b:ab):Option Bool :=
  some (decide (((a:Nat):Int) ≥ ((b.S.P:Nat):Int)))
def bU (a:List Nat) (b:ab) (k1:Nat):Option (Out Unit Int) :=
  a[k1]? >>= fun x1 =>
  ia x1 b >>= fun r2 =>
  bif r2 then
    some (.fin ((k1:Nat):Int))
  else
    some (.go ())
def b8 (a:List Nat) (b:ab):Option Int :=
  nq (fun k1 (st:Unit)=>bU a b k1) (a.length - 0) 0 () >>= fun r1=>kB r1 (fun x=>some x) fun _ =>
  some (-1)
def bp (a:List Nat) (b:ab):Option Bool :=
  b8 a b >>= fun r1 =>
  some (decide (r1 ≥ (0:Int)))
def iQ (a:List Nat) (b:ab):Option Bool :=
  bp a b >>= fun r1 =>
  some r1
def bT (a:List (List Nat)) (b:ab) (k1:Nat):Option (Out Unit Int) :=
  a[k1]? >>= fun x1 =>
  iQ x1 b >>= fun r2 =>
  bif r2 then
    some (.fin ((k1:Nat):Int))
  else
    some (.go ())
def b0 (a:List (List Nat)) (b:ab):Option Int :=
  nq (fun k1 (st:Unit)=>bT a b k1) (a.length - 0) 0 () >>= fun r1=>kB r1 (fun x=>some x) fun _ =>
  some (-1)
def bo (a:List (List Nat)) (b:ab):Option Bool :=
  b0 a b >>= fun r1 =>
  some (decide (r1 ≥ (0:Int)))
def jG (a:ab):Option Bool :=
  gF a.S a.af >>= fun r1 =>
  bif !r1 then
    some false
  else
    bif ((a.ax.length:Nat):Int) != a.S.N then
      some false
    else
      aZ a.aa a >>= fun r2 =>
      bif r2 then
        some false
      else
        bo a.ax a >>= fun r3 =>
        some (!r3)
def uA (a:List Nat):Option ay :=
  some (⟨a,((0:Nat):Int)⟩:ay)
def qm (a:ab) (k1:Nat) (l2:List ay):Option (List ay) :=
  a.ax[k1]? >>= fun x2 =>
  uA x2 >>= fun r3 =>
  dk 8 l2 ([r3]:List ay) >>= fun l4 =>
  some l4
def mg (a:ab):Option (Unit ⊕ ap) :=
  jG a >>= fun r1 =>
  bif !r1 then
    some (.inl ())
  else
    pG 24 a.S.N a.S.N ([]:List al) >>= fun l1 =>
    dU (fun k1 (st:(List ay))=>qm a k1 st) (a.ax.length - 0) 0 ([]:List ay) >>= fun l3 =>
    some (.inr (⟨a,((0:Nat):Int),l1,l3⟩:ap))
def bI (a:ap):Option ab :=
  some a.zw
def gA (a:aH) (b:Int):Option Int :=
  fI b a.N >>= fun x1 =>
  kj x1 a.T >>= fun x2 =>
  kj x2 (1:Int) >>= fun x3 =>
  kj a.N a.T >>= fun x4 =>
  ub x3 x4 >>= fun x5 =>
  some x5
def fb (a:ap) (b:Int):Option Nat :=
  kj b (1:Int) >>= fun x1 =>
  iK a.am x1 >>= fun x2 =>
  some x1.toNat
def iu (a:ay):Option Int :=
  kj ((a.gD.length:Nat):Int) a.zat >>= fun x1 =>
  some x1
def jJ (a:ay) (b:Int):Option ((List Nat) × Int × Int) :=
  (
    bif decide (b < (0:Int)) then
      some true
    else
      iu a >>= fun r1 =>
      some (decide (b > r1))
  ) >>= fun x1 =>
  bif x1 then
    some (([]:List Nat),((10:Nat):Int),a.zat)
  else
    fI a.zat b >>= fun x2 =>
    pT a.gD a.zat x2 >>= fun l1 =>
    some (l1,((0:Nat):Int),x2)
def sB (a:List Nat) (k1:Nat) (l2:List (List Nat)):Option (List (List Nat)) :=
  pG 8 ((a.length:Nat):Int) ((a.length:Nat):Int) (0:Nat) >>= fun l4 =>
  l2[k1]? >>= fun x6 =>
  some (l2.set k1 l4) >>= fun l5 =>
  some l5
def sC (a:List Nat) (k2:Nat) (l6:List (List Nat)):Option (List (List Nat)) :=
  a[k2]? >>= fun x8 =>
  l6[0]? >>= fun x9 =>
  l6[k2]? >>= fun x10 =>
  x9[k2]? >>= fun x11 =>
  some (x9.set k2 x8) >>= fun l8 =>
  some (l6.set 0 l8) >>= fun l9 =>
  x10[0]? >>= fun x12 =>
  l9[k2]? >>= fun x13 =>
  x13[0]? >>= fun x14 =>
  some (x13.set 0 x8) >>= fun l10 =>
  some (l9.set k2 l10) >>= fun l11 =>
  some l11
def lA (a:List Nat) (k3:Nat) (l16:List Nat) (l17:List (List Nat)) (x16:Int):Option (Out ((List Nat) × (List (List Nat)) × Int) ((List Nat) × (List (List Nat)))) :=
  bif decide (x16 < ((a.length:Nat):Int)) then
    l17[k3]? >>= fun x17 =>
    iK l17 x16 >>= fun x18 =>
    l16[0]? >>= fun x19 =>
    iK x17 x16 >>= fun x20 =>
    some (x17.set x16.toNat x19) >>= fun l22 =>
    some (l17.set k3 l22) >>= fun l23 =>
    x18[k3]? >>= fun x21 =>
    iK l23 x16 >>= fun x22 =>
    x22[k3]? >>= fun x23 =>
    some (x22.set k3 x19) >>= fun l24 =>
    some (l23.set x16.toNat l24) >>= fun l25 =>
    pT l16 (1:Int) ((l16.length:Nat):Int) >>= fun l26 =>
    fI x16 (1:Int) >>= fun x24 =>
    some (.go (l26,l25,x24))
  else
    some (.fin (l16,l17))
def lz (a:List Nat) (k3:Nat) (l12:List Nat) (l13:List (List Nat)):Option ((List Nat) × (List (List Nat))) :=
  sP (fun (st:(List Nat) × (List (List Nat)) × Int)=>lA a k3 st.1 st.2.1 st.2.2) big (l12,l13,((k3:Nat):Int)) >>= fun (l20,l21) =>
  some (l20,l21)
def kb (a:List Nat) (b:List Nat):Option ((List (List Nat)) × Int) :=
  (
    bif ((a.length:Nat):Int) == (0:Int) then
      some true
    else
      kj ((a.length:Nat):Int) (1:Int) >>= fun x2 =>
      mf ((a.length:Nat):Int) x2 >>= fun x3 =>
      ub x3 (2:Int) >>= fun x4 =>
      some (((b.length:Nat):Int) != x4)
  ) >>= fun x1 =>
  bif x1 then
    some (([]:List (List Nat)),((1:Nat):Int))
  else
    pG 24 ((a.length:Nat):Int) ((a.length:Nat):Int) ([]:List Nat) >>= fun l1 =>
    dU (fun k1 (st:(List (List Nat)))=>sB a k1 st) (l1.length - 0) 0 l1 >>= fun l3 =>
    dU (fun k2 (st:(List (List Nat)))=>sC a k2 st) (a.length - 0) 0 l3 >>= fun l7 =>
    pa (max 1 (((a.length:Nat):Int)).toNat) >>= fun u1 =>
    dU (fun k3 (st:(List Nat) × (List (List Nat)))=>lz a k3 st.1 st.2) ((max 1 (((a.length:Nat):Int)).toNat) - 1) 1 (b,l7) >>= fun (l14,l15) =>
    some (l15,((0:Nat):Int))
def dA (a:Int) (b:ai) (x1:List (List Nat)) (k1:Nat) (l1:List ay) (l2:List (List (List (List Nat)))):Option ((List ay) × (List (List (List (List Nat))))) :=
  x1[k1]? >>= fun x3 =>
  fI a (1:Int) >>= fun x4 =>
  fb (⟨b.zn.zw,b.zn.ah,b.zn.au,l1⟩:ap) x4 >>= fun r2 =>
  fI b.zs.T (1:Int) >>= fun x5 =>
  mf b.zs.T x5 >>= fun x6 =>
  ub x6 (2:Int) >>= fun x7 =>
  l1[r2]? >>= fun x8 =>
  jJ x8 x7 >>= fun r3 =>
  some (l1.set r2 (⟨x8.gD,r3.2.2⟩:ay)) >>= fun l5 =>
  kb x3 r3.1 >>= fun r4 =>
  iK l2 a >>= fun x9 =>
  dk 24 x9 ([r4.1]:List (List (List Nat))) >>= fun l6 =>
  some (l2.set a.toNat l6) >>= fun l7 =>
  some (l5,l7)
def gm (a:Int) (b:ai):Option ((List ay) × aF) :=
  iK b.zq a >>= fun x1 =>
  dU (fun k1 (st:(List ay) × (List (List (List (List Nat)))))=>dA a b x1 k1 st.1 st.2) (x1.length - 0) 0 (b.zn.am,b.zd.S) >>= fun (l3,l4) =>
  some (l3,(⟨l4,b.zd.Rows,b.zd.az⟩:aF))
def bz (a:ai) (k1:Nat) (l1:List ay) (l2:List (List (List (List Nat)))) (l3:List (List (List (List Nat)))) (l4:List (List (List Nat))):Option ((List ay) × (List (List (List (List Nat)))) × (List (List (List (List Nat)))) × (List (List (List Nat)))) :=
  gm ((k1:Nat):Int) (⟨(⟨a.zn.zw,a.zn.ah,a.zn.au,l1⟩:ap),a.zs,a.zq,(⟨l2,l3,l4⟩:aF)⟩:ai) >>= fun r2 =>
  some (r2.1,r2.2.S,r2.2.Rows,r2.2.az)
def cN (a:ai):Option ((List ay) × aF) :=
  pa (max 0 (a.zs.N).toNat) >>= fun u1 =>
  dU (fun k1 (st:(List ay) × (List (List (List (List Nat)))) × (List (List (List (List Nat)))) × (List (List (List Nat))))=>bz a k1 st.1 st.2.1 st.2.2.1 st.2.2.2) ((max 0 (a.zs.N).toNat) - 0) 0 (a.zn.am,a.zd.S,a.zd.Rows,a.zd.az) >>= fun (l5,l6,l7,l8) =>
  some (l5,(⟨l6,l7,l8⟩:aF))
def gS (a:ai):Option ((List ay) × aF) :=
  cN a >>= fun r1 =>
  some (r1.1,r1.2)
def kw (a:Nat) (b:Nat):Option (Nat × Nat) :=
  some (ti a 4294967295) >>= fun x1 =>
  rB a (32:Int) >>= fun x2 =>
  some (ti b 4294967295) >>= fun x3 =>
  rB b (32:Int) >>= fun x4 =>
  some (tz x1 x3) >>= fun x5 =>
  some (tz x2 x3) >>= fun x6 =>
  rB x5 (32:Int) >>= fun x7 =>
  some (lS x6 x7) >>= fun x8 =>
  some (ti x8 4294967295) >>= fun x9 =>
  rB x8 (32:Int) >>= fun x10 =>
  some (tz x1 x4) >>= fun x11 =>
  some (lS x9 x11) >>= fun x12 =>
  some (tz x2 x4) >>= fun x13 =>
  some (lS x13 x10) >>= fun x14 =>
  rB x12 (32:Int) >>= fun x15 =>
  some (lS x14 x15) >>= fun x16 =>
  some (tz a b) >>= fun x17 =>
  some (x16,x17)
def kv (a:Nat):Option Int :=
  bif a == 31 then
    some ((5:Nat):Int)
  else
    bif a == 127 then
      some ((7:Nat):Int)
    else
      bif a == 8191 then
        some ((13:Nat):Int)
      else
        bif a == 131071 then
          some ((17:Nat):Int)
        else
          bif a == 524287 then
            some ((19:Nat):Int)
          else
            bif a == 2147483647 then
              some ((31:Nat):Int)
            else
              bif a == 2305843009213693951 then
                some ((61:Nat):Int)
              else
                bif a == 1 then
                  some ((1:Nat):Int)
                else
                  bif a == 2 then
                    some ((2:Nat):Int)
                  else
                    bif a == 3 then
                      some ((2:Nat):Int)
                    else
                      bif a == 4 then
                        some ((3:Nat):Int)
                      else
                        bif a == 5 then
                          some ((3:Nat):Int)
                        else
                          bif a == 6 then
                            some ((3:Nat):Int)
                          else
                            bif a == 7 then
                              some ((3:Nat):Int)
                            else
                              none
def qi (a:Nat):Option Nat :=
  kv a >>= fun r1 =>
  some (qP r1) >>= fun x1 =>
  some x1
def gr (a:Nat) (r1:Nat) (x1:Nat) (x2:Nat):Option (Out (Nat × Nat) Nat) :=
  (
    bif ((x1:Nat):Int) != (0:Int) then
      some true
    else
      some (decide (((x2:Nat):Int) > ((a:Nat):Int)))
  ) >>= fun x5 =>
  bif x5 then
    some (ti x2 a) >>= fun x6 =>
    rB x2 ((r1:Nat):Int) >>= fun x7 =>
    some (uT 64 r1) >>= fun x8 =>
    yc x1 ((x8:Nat):Int) >>= fun x9 =>
    some (Ir x7 x9) >>= fun x10 =>
    rB x1 ((r1:Nat):Int) >>= fun x11 =>
    some (lS x10 x6) >>= fun x12 =>
    some (CZ x10 x6) >>= fun x13 =>
    some (lS x11 x13) >>= fun x14 =>
    some (.go (x14,x12))
  else
    some (.fin x2)
def lE (a:Nat) (b:Nat) (c:Nat):Option Nat :=
  qi a >>= fun r1 =>
  sP (fun (st:Nat × Nat)=>gr a r1 st.1 st.2) big (b,c) >>= fun x4 =>
  bif ((x4:Nat):Int) == ((a:Nat):Int) then
    some 0
  else
    some x4
def dQ (a:Nat) (b:Nat) (c:Nat):Option Nat :=
  kw b c >>= fun r1 =>
  lE a r1.1 r1.2 >>= fun r2 =>
  some r2
def jb (a:Nat) (b:Nat) (c:Nat):Option Nat :=
  some (lS b c) >>= fun x1 =>
  lE a 0 x1 >>= fun r1 =>
  some r1
def lB (a:Nat) (x1:Nat) (x4:List Nat) (k2:Nat) (l4:List Nat):Option (List Nat) :=
  x4[k2]? >>= fun x6 =>
  l4[k2]? >>= fun x7 =>
  dQ a x6 x1 >>= fun r3 =>
  jb a x7 r3 >>= fun r4 =>
  some (l4.set k2 r4) >>= fun l6 =>
  some l6
def iv (a:Nat) (b:List (List Nat)) (c:Nat) (k1:Nat) (l2:List Nat) (x1:Nat):Option ((List Nat) × Nat) :=
  b[k1]? >>= fun x4 =>
  dU (fun k2 (st:(List Nat))=>lB a x1 x4 k2 st) (x4.length - 0) 0 l2 >>= fun l5 =>
  dQ a x1 c >>= fun r5 =>
  some (l5,r5)
def ee (a:Nat) (b:List (List Nat)) (c:Nat):Option (List Nat) :=
  pG 8 ((b.length:Nat):Int) ((b.length:Nat):Int) (0:Nat) >>= fun l1 =>
  dU (fun k1 (st:(List Nat) × Nat)=>iv a b c k1 st.1 st.2) (b.length - 0) 0 (l1,1) >>= fun (l3,x3) =>
  some l3
def fA (a:ai) (k1:Nat) (x2:List (List (List Nat))) (k2:Nat) (l3:List Nat):Option (List Nat) :=
  x2[k2]? >>= fun x4 =>
  some (qP ((k1:Nat):Int)) >>= fun x5 =>
  ee a.zs.P x4 x5 >>= fun r3 =>
  dk 8 l3 r3 >>= fun l5 =>
  some l5
def fy (a:Int) (b:ai) (k1:Nat) (l1:List (List (List Nat))):Option (List (List (List Nat))) :=
  iK b.zd.S a >>= fun x2 =>
  pa x2.length >>= fun u2 =>
  dU (fun k2 (st:(List Nat))=>fA b k1 x2 k2 st) (x2.length - 0) 0 ([]:List Nat) >>= fun l4 =>
  iK l1 a >>= fun x6 =>
  dk 24 x6 ([l4]:List (List Nat)) >>= fun l6 =>
  some (l1.set a.toNat l6) >>= fun l7 =>
  some l7
def eE (a:Int) (b:ai) (c:List (List (List Nat))):Option (List (List (List Nat))) :=
  pa (max 1 (b.zs.N+1).toNat) >>= fun u1 =>
  dU (fun k1 (st:(List (List (List Nat))))=>fy a b k1 st) ((max 1 (b.zs.N+1).toNat) - 1) 1 c >>= fun l2 =>
  some l2
def cm (a:ai) (k1:Nat) (l1:List (List (List Nat))):Option (List (List (List Nat))) :=
  eE ((k1:Nat):Int) a l1 >>= fun r2 =>
  some r2
def bQ (a:ai) (b:List (List (List Nat))):Option (List (List (List Nat))) :=
  pa (max 0 (a.zs.N).toNat) >>= fun u1 =>
  dU (fun k1 (st:(List (List (List Nat))))=>cm a k1 st) ((max 0 (a.zs.N).toNat) - 0) 0 b >>= fun l2 =>
  some l2
def bZ (a:List (List Nat)):Option (List (List Nat)) :=
  dk 24 ([]:List (List Nat)) a >>= fun l1 =>
  some l1
def ie (a:List Int) (b:Int) (k1:Nat):Option (Out Unit Int) :=
  a[k1]? >>= fun x1 =>
  bif b == x1 then
    some (.fin ((k1:Nat):Int))
  else
    some (.go ())
def jh (a:List Int) (b:Int):Option Int :=
  nq (fun k1 (st:Unit)=>ie a b k1) (a.length - 0) 0 () >>= fun r1=>kB r1 (fun x=>some x) fun _ =>
  some (-1)
def cD (a:List Int) (b:Int):Option Bool :=
  jh a b >>= fun r1 =>
  some (decide (r1 ≥ (0:Int)))
def jz (a:ab) (b:aM) (c:Int):Option Bool :=
  bif b.Round == c then
    cD a.af b.From >>= fun r1 =>
    some r1
  else
    some false
def mF (a:Nat) (b:Nat):Option Nat :=
  lE a 0 b >>= fun r1 =>
  some r1
def cE (a:List Nat):Option (List Nat) :=
  dk 8 ([]:List Nat) a >>= fun l1 =>
  some l1
def jB (a:List Nat) (b:Int):Option Nat :=
  bif decide (b < (0:Int)) then
    some 0
  else
    bif decide (b ≥ ((a.length:Nat):Int)) then
      some 0
    else
      iK a b >>= fun x1 =>
      some x1
def jA (a:ab) (b:aM) (c:List Nat) (d:List Nat):Option (List Nat) :=
  bif b.Kind == (4:Int) then
    some ([]:List Nat)
  else
    bif decide (b.At ≥ ((c.length:Nat):Int)) then
      some c
    else
      mF a.S.P b.K >>= fun r1 =>
      cE c >>= fun r2 =>
      bif b.Kind == (1:Int) then
        iK r2 b.At >>= fun x1 =>
        some (r2.set b.At.toNat r1) >>= fun l1 =>
        some l1
      else
        bif b.Kind == (2:Int) then
          iK r2 b.At >>= fun x2 =>
          jb a.S.P x2 r1 >>= fun r3 =>
          some (r2.set b.At.toNat r3) >>= fun l2 =>
          some l2
        else
          bif b.Kind == (3:Int) then
            cD a.af b.Of >>= fun r4 =>
            (
              bif !r4 then
                jB d b.bi >>= fun r5 =>
                some r5
              else
                some 0
            ) >>= fun x3 =>
            iK r2 b.At >>= fun x4 =>
            dQ a.S.P r1 x3 >>= fun r6 =>
            jb a.S.P x4 r6 >>= fun r7 =>
            some (r2.set b.At.toNat r7) >>= fun l3 =>
            some l3
          else
            some r2
def cX (a:List (List (List Nat))) (k1:Nat) (l2:List (List (List Nat))):Option (List (List (List Nat))) :=
  a[k1]? >>= fun x2 =>
  bZ x2 >>= fun r2 =>
  l2[k1]? >>= fun x3 =>
  some (l2.set k1 r2) >>= fun l4 =>
  some l4
def fK (a:ab) (x5:aM) (l7:List Nat) (x10:Int) (k3:Nat) (l8:List (List (List Nat))):Option (List (List (List Nat))) :=
  (
    fI ((k3:Nat):Int) (1:Int) >>= fun x14 =>
    bif x14 != x5.From then
      bif x5.To == (0:Int) then
        some true
      else
        some (x5.To == x14)
    else
      some false
  ) >>= fun x13 =>
  bif x13 then
    iK l8 x10 >>= fun x15 =>
    x15[k3]? >>= fun x16 =>
    jA a x5 x16 l7 >>= fun r6 =>
    some (x15.set k3 r6) >>= fun l10 =>
    some (l8.set x10.toNat l10) >>= fun l11 =>
    some l11
  else
    some l8
def fJ (a:ab) (b:Int) (c:List (List (List Nat))) (k2:Nat) (l5:List (List (List Nat))):Option (List (List (List Nat))) :=
  a.aa[k2]? >>= fun x5 =>
  jz a x5 b >>= fun r4 =>
  bif !r4 then
    some l5
  else
    (
      bif x5.Kind == (3:Int) then
        kj x5.Of (1:Int) >>= fun x6 =>
        iK c x6 >>= fun x7 =>
        kj x5.From (1:Int) >>= fun x8 =>
        iK x7 x8 >>= fun x9 =>
        some x9
      else
        some ([]:List Nat)
    ) >>= fun l7 =>
    kj x5.From (1:Int) >>= fun x10 =>
    iK l5 x10 >>= fun x11 =>
    pa x11.length >>= fun u1 =>
    dU (fun k3 (st:(List (List (List Nat))))=>fK a x5 l7 x10 k3 st) (x11.length - 0) 0 l5 >>= fun l9 =>
    some l9
def br (a:ab) (b:Int) (c:List (List (List Nat))):Option (List (List (List Nat))) :=
  pG 24 ((c.length:Nat):Int) ((c.length:Nat):Int) ([]:List (List Nat)) >>= fun l1 =>
  dU (fun k1 (st:(List (List (List Nat))))=>cX c k1 st) (c.length - 0) 0 l1 >>= fun l3 =>
  dU (fun k2 (st:(List (List (List Nat))))=>fJ a b c k2 st) (a.aa.length - 0) 0 l3 >>= fun l6 =>
  some l6
def iC (a:ap) (b:Int) (c:Int) (d:List Nat):Option (List (List al)) :=
  (
    bif b != c then
      some (decide (((d.length:Nat):Int) > (0:Int)))
    else
      some false
  ) >>= fun x1 =>
  bif x1 then
    iK a.au b >>= fun x2 =>
    fI c (1:Int) >>= fun x3 =>
    dk 8 ([]:List Nat) d >>= fun l1 =>
    dk 40 x2 ([(⟨a.ah,x3,l1⟩:al)]:List al) >>= fun l2 =>
    some (a.au.set b.toNat l2) >>= fun l3 =>
    some l3
  else
    some a.au
def fS (a:ap) (r1:(List (List (List Nat)))) (k1:Nat) (k2:Nat) (l6:List (List al)) (l7:List (List (List Nat))):Option ((List (List al)) × (List (List (List Nat)))) :=
  r1[k2]? >>= fun x3 =>
  x3[k1]? >>= fun x4 =>
  dk 8 ([]:List Nat) x4 >>= fun l10 =>
  l7[k1]? >>= fun x5 =>
  dk 24 x5 ([l10]:List (List Nat)) >>= fun l11 =>
  some (l7.set k1 l11) >>= fun l12 =>
  iC (⟨a.zw,a.ah,l6,a.am⟩:ap) ((k1:Nat):Int) ((k2:Nat):Int) l10 >>= fun r4 =>
  some (r4,l12)
def fR (a:ap) (r1:(List (List (List Nat)))) (k1:Nat) (l2:List (List al)) (l3:List (List (List Nat))):Option ((List (List al)) × (List (List (List Nat)))) :=
  pa (max 0 (a.zw.S.N).toNat) >>= fun u1 =>
  dU (fun k2 (st:(List (List al)) × (List (List (List Nat))))=>fS a r1 k1 k2 st.1 st.2) ((max 0 (a.zw.S.N).toNat) - 0) 0 (l2,l3) >>= fun (l8,l9) =>
  some (l8,l9)
def iB (a:ap) (b:List (List (List Nat))):Option ((List (List (List Nat))) × Int × (List (List al))) :=
  br a.zw a.ah b >>= fun r1 =>
  pG 24 a.zw.S.N a.zw.S.N ([]:List (List Nat)) >>= fun l1 =>
  dU (fun k1 (st:(List (List al)) × (List (List (List Nat))))=>fR a r1 k1 st.1 st.2) (l1.length - 0) 0 (a.au,l1) >>= fun (l4,l5) =>
  fI a.ah (1:Int) >>= fun x6 =>
  some (l5,x6,l4)
def em (a:List Nat) (b:Int):Option (List Nat) :=
  pG 8 b b (0:Nat) >>= fun l1 =>
  some (rb l1 a)
def fC (a:Int) (r2:(List Nat)) (k2:Nat) (l3:List (List Nat)):Option (List (List Nat)) :=
  mf ((k2:Nat):Int) a >>= fun x7 =>
  fI ((k2:Nat):Int) (1:Int) >>= fun x8 =>
  mf x8 a >>= fun x9 =>
  pT r2 x7 x9 >>= fun l5 =>
  dk 24 l3 ([l5]:List (List Nat)) >>= fun l6 =>
  some l6
def fB (a:Int) (b:ai) (c:List (List (List Nat))) (d:Int) (k1:Nat) (l1:List (List (List (List Nat)))):Option (List (List (List (List Nat)))) :=
  b.zq[k1]? >>= fun x2 =>
  iK c a >>= fun x3 =>
  x3[k1]? >>= fun x4 =>
  mf ((x2.length:Nat):Int) d >>= fun x5 =>
  em x4 x5 >>= fun r2 =>
  dU (fun k2 (st:(List (List Nat)))=>fC d r2 k2 st) (x2.length - 0) 0 ([]:List (List Nat)) >>= fun l4 =>
  iK l1 a >>= fun x10 =>
  dk 24 x10 ([l4]:List (List (List Nat))) >>= fun l7 =>
  some (l1.set a.toNat l7) >>= fun l8 =>
  some l8
def eG (a:Int) (b:ai) (c:List (List (List Nat))) (d:Int):Option aF :=
  dU (fun k1 (st:(List (List (List (List Nat)))))=>fB a b c d k1 st) (b.zq.length - 0) 0 b.zd.Rows >>= fun l2 =>
  some (⟨b.zd.S,l2,b.zd.az⟩:aF)
def bk (a:ai) (b:List (List (List Nat))) (c:Int) (k1:Nat) (l1:List (List (List (List Nat)))) (l2:List (List (List (List Nat)))) (l3:List (List (List Nat))):Option ((List (List (List (List Nat)))) × (List (List (List (List Nat)))) × (List (List (List Nat)))) :=
  eG ((k1:Nat):Int) (⟨a.zn,a.zs,a.zq,(⟨l1,l2,l3⟩:aF)⟩:ai) b c >>= fun r2 =>
  some (r2.S,r2.Rows,r2.az)
def bR (a:ai) (b:List (List (List Nat))) (c:Int):Option aF :=
  pa (max 0 (a.zs.N).toNat) >>= fun u1 =>
  dU (fun k1 (st:(List (List (List (List Nat)))) × (List (List (List (List Nat)))) × (List (List (List Nat))))=>bk a b c k1 st.1 st.2.1 st.2.2) ((max 0 (a.zs.N).toNat) - 0) 0 (a.zd.S,a.zd.Rows,a.zd.az) >>= fun (l4,l5,l6) =>
  some (⟨l4,l5,l6⟩:aF)
def ft (a:ai):Option (Int × (List (List al)) × aF) :=
  fI a.zs.T (1:Int) >>= fun x1 =>
  pG 24 a.zs.N a.zs.N ([]:List (List Nat)) >>= fun l1 =>
  bQ a l1 >>= fun r1 =>
  iB a.zn r1 >>= fun r2 =>
  bR (⟨(⟨a.zn.zw,r2.2.1,r2.2.2,a.zn.am⟩:ap),a.zs,a.zq,a.zd⟩:ai) r2.1 x1 >>= fun r3 =>
  some (r2.2.1,r2.2.2,r3)
def k9 (a:Nat) (b:List Nat) (c:Nat) (x2:Nat) (x3:Int):Option (Out (Nat × Int) Nat) :=
  bif decide (x3 ≥ (0:Int)) then
    dQ a x2 c >>= fun r2 =>
    iK b x3 >>= fun x6 =>
    jb a r2 x6 >>= fun r3 =>
    kj x3 (1:Int) >>= fun x7 =>
    some (.go (r3,x7))
  else
    some (.fin x2)
def jd (a:Nat) (b:List Nat) (c:Nat):Option Nat :=
  kj ((b.length:Nat):Int) (1:Int) >>= fun x1 =>
  sP (fun (st:Nat × Int)=>k9 a b c st.1 st.2) big (0,x1) >>= fun x5 =>
  some x5
def kL (a:ai) (b:Int) (x3:List (List Nat)) (k2:Nat) (l3:List Nat):Option (List Nat) :=
  x3[k2]? >>= fun x5 =>
  some (qP b) >>= fun x6 =>
  jd a.zs.P x5 x6 >>= fun r3 =>
  dk 8 l3 ([r3]:List Nat) >>= fun l5 =>
  some l5
def iH (a:ai) (b:Int) (x1:List (List (List Nat))) (k1:Nat) (l1:List Nat):Option (List Nat) :=
  x1[k1]? >>= fun x3 =>
  dU (fun k2 (st:(List Nat))=>kL a b x3 k2 st) (x3.length - 0) 0 l1 >>= fun l4 =>
  some l4
def fD (a:ai) (b:Int) (c:Int):Option (List Nat) :=
  iK a.zd.Rows b >>= fun x1 =>
  pa x1.length >>= fun u1 =>
  dU (fun k1 (st:(List Nat))=>iH a c x1 k1 st) (x1.length - 0) 0 ([]:List Nat) >>= fun l2 =>
  some l2
def jR (a:Int) (b:ai) (k1:Nat) (l1:List (List (List Nat))):Option (List (List (List Nat))) :=
  iK l1 a >>= fun x2 =>
  fD b a ((k1:Nat):Int) >>= fun r2 =>
  dk 24 x2 ([r2]:List (List Nat)) >>= fun l3 =>
  some (l1.set a.toNat l3) >>= fun l4 =>
  some l4
def iG (a:Int) (b:ai) (c:List (List (List Nat))):Option (List (List (List Nat))) :=
  pa (max 1 (b.zs.N+1).toNat) >>= fun u1 =>
  dU (fun k1 (st:(List (List (List Nat))))=>jR a b k1 st) ((max 1 (b.zs.N+1).toNat) - 1) 1 c >>= fun l2 =>
  some l2
def dB (a:ai) (k1:Nat) (l1:List (List (List Nat))):Option (List (List (List Nat))) :=
  iG ((k1:Nat):Int) a l1 >>= fun r2 =>
  some r2
def b9 (a:ai) (b:List (List (List Nat))):Option (List (List (List Nat))) :=
  pa (max 0 (a.zs.N).toNat) >>= fun u1 =>
  dU (fun k1 (st:(List (List (List Nat))))=>dB a k1 st) ((max 0 (a.zs.N).toNat) - 0) 0 b >>= fun l2 =>
  some l2
def gH (a:ai):Option ((List (List (List Nat))) × Int × (List (List al))) :=
  pG 24 a.zs.N a.zs.N ([]:List (List Nat)) >>= fun l1 =>
  b9 a l1 >>= fun r1 =>
  iB a.zn r1 >>= fun r2 =>
  some (r2.1,r2.2.1,r2.2.2)
def eJ (a:ai) (k1:Nat) (r2:(List Nat)) (r3:(List Nat)) (k2:Nat) (k3:Nat) (l6:List Nat) (x9:Int):Option ((List Nat) × Int) :=
  iK r3 x9 >>= fun x12 =>
  iK r2 x9 >>= fun x13 =>
  bif ((x12:Nat):Int) != ((x13:Nat):Int) then
    mf ((k2:Nat):Int) a.zs.N >>= fun x14 =>
    fI x14 ((k1:Nat):Int) >>= fun x15 =>
    iK l6 x15 >>= fun x16 =>
    some (l6.set x15.toNat 1) >>= fun l8 =>
    fI x9 (1:Int) >>= fun x17 =>
    some (l8,x17)
  else
    fI x9 (1:Int) >>= fun x18 =>
    some (l6,x18)
def eI (a:ai) (k1:Nat) (r2:(List Nat)) (r3:(List Nat)) (k2:Nat) (l4:List Nat) (x5:Int):Option ((List Nat) × Int) :=
  a.zq[k2]? >>= fun x8 =>
  dU (fun k3 (st:(List Nat) × Int)=>eJ a k1 r2 r3 k2 k3 st.1 st.2) (x8.length - 0) 0 (l4,x5) >>= fun (l7,x11) =>
  some (l7,x11)
def i5 (a:ai) (b:Int) (c:List (List Nat)) (k1:Nat) (l2:List Nat):Option (List Nat) :=
  bif ((k1:Nat):Int) == b then
    some l2
  else
    fI ((k1:Nat):Int) (1:Int) >>= fun x3 =>
    fD a b x3 >>= fun r2 =>
    c[k1]? >>= fun x4 =>
    em x4 ((r2.length:Nat):Int) >>= fun r3 =>
    dU (fun k2 (st:(List Nat) × Int)=>eI a k1 r2 r3 k2 st.1 st.2) (a.zq.length - 0) 0 (l2,((0:Nat):Int)) >>= fun (l5,x7) =>
    some l5
def c8 (a:ai) (b:Int) (c:List (List Nat)):Option (List Nat) :=
  mf a.zs.N a.zs.N >>= fun x1 =>
  pG 8 x1 x1 (0:Nat) >>= fun l1 =>
  pa (max 0 (a.zs.N).toNat) >>= fun u1 =>
  dU (fun k1 (st:(List Nat))=>i5 a b c k1 st) ((max 0 (a.zs.N).toNat) - 0) 0 l1 >>= fun l3 =>
  some l3
def ij (a:Int) (b:ai) (c:List (List (List Nat))) (d:List (List Nat)):Option (List (List Nat)) :=
  iK c a >>= fun x1 =>
  c8 b a x1 >>= fun r1 =>
  iK d a >>= fun x2 =>
  some (d.set a.toNat r1) >>= fun l1 =>
  some l1
def dt (a:ai) (b:List (List (List Nat))) (k1:Nat) (l1:List (List Nat)):Option (List (List Nat)) :=
  ij ((k1:Nat):Int) a b l1 >>= fun r2 =>
  some r2
def bX (a:ai) (b:List (List (List Nat))) (c:List (List Nat)):Option (List (List Nat)) :=
  pa (max 0 (a.zs.N).toNat) >>= fun u1 =>
  dU (fun k1 (st:(List (List Nat)))=>dt a b k1 st) ((max 0 (a.zs.N).toNat) - 0) 0 c >>= fun l2 =>
  some l2
def e7 (a:ab) (b:Int) (c:List (List Nat)) (k1:Nat) (l1:List (List Nat)):Option (List (List Nat)) :=
  a.aa[k1]? >>= fun x2 =>
  jz a x2 b >>= fun r3 =>
  bif !r3 then
    some l1
  else
    (
      bif x2.Kind == (3:Int) then
        kj x2.Of (1:Int) >>= fun x3 =>
        iK c x3 >>= fun x4 =>
        some x4
      else
        some ([]:List Nat)
    ) >>= fun l3 =>
    kj x2.From (1:Int) >>= fun x5 =>
    iK l1 x5 >>= fun x6 =>
    jA a x2 x6 l3 >>= fun r4 =>
    some (l1.set x5.toNat r4) >>= fun l4 =>
    some l4
def aO (a:ab) (b:Int) (c:List (List Nat)):Option (List (List Nat)) :=
  bZ c >>= fun r1 =>
  dU (fun k1 (st:(List (List Nat)))=>e7 a b c k1 st) (a.aa.length - 0) 0 r1 >>= fun l2 =>
  some l2
def hY (a:ap) (k1:Nat) (l7:List (List Nat)) (k2:Nat) (l8:List (List al)):Option (List (List al)) :=
  l7[k1]? >>= fun x5 =>
  iC (⟨a.zw,a.ah,l8,a.am⟩:ap) ((k2:Nat):Int) ((k1:Nat):Int) x5 >>= fun r4 =>
  some r4
def dI (a:ap) (r1:(List (List Nat))) (k1:Nat) (l2:List (List al)) (l3:List (List Nat)):Option ((List (List al)) × (List (List Nat))) :=
  r1[k1]? >>= fun x2 =>
  dk 8 ([]:List Nat) x2 >>= fun l6 =>
  l3[k1]? >>= fun x3 =>
  some (l3.set k1 l6) >>= fun l7 =>
  dU (fun k2 (st:(List (List al)))=>hY a k1 l7 k2 st) (l7.length - 0) 0 l2 >>= fun l9 =>
  some (l9,l7)
def ce (a:ap) (b:List (List Nat)):Option ((List (List Nat)) × Int × (List (List al))) :=
  aO a.zw a.ah b >>= fun r1 =>
  pG 24 a.zw.S.N a.zw.S.N (([]:List Nat):List Nat) >>= fun l1 =>
  dU (fun k1 (st:(List (List al)) × (List (List Nat)))=>dI a r1 k1 st.1 st.2) (l1.length - 0) 0 (a.au,l1) >>= fun (l4,l5) =>
  fI a.ah (1:Int) >>= fun x6 =>
  some (l5,x6,l4)
def jv (a:Int) (b:ai) (r1:(List Nat)) (k1:Nat) (l1:List (List (List Nat))):Option (List (List (List Nat))) :=
  iK l1 a >>= fun x4 =>
  mf ((k1:Nat):Int) b.zs.N >>= fun x5 =>
  fI ((k1:Nat):Int) (1:Int) >>= fun x6 =>
  mf x6 b.zs.N >>= fun x7 =>
  pT r1 x5 x7 >>= fun l3 =>
  dk 24 x4 ([l3]:List (List Nat)) >>= fun l4 =>
  some (l1.set a.toNat l4) >>= fun l5 =>
  some l5
def fq (a:Int) (b:List (List Nat)) (c:ai):Option aF :=
  iK b a >>= fun x1 =>
  mf c.zs.N c.zs.N >>= fun x2 =>
  em x1 x2 >>= fun r1 =>
  pa (max 0 (c.zs.N).toNat) >>= fun u1 =>
  dU (fun k1 (st:(List (List (List Nat))))=>jv a c r1 k1 st) ((max 0 (c.zs.N).toNat) - 0) 0 c.zd.az >>= fun l2 =>
  some (⟨c.zd.S,c.zd.Rows,l2⟩:aF)
def bq (a:ai) (b:List (List Nat)) (k1:Nat) (l1:List (List (List (List Nat)))) (l2:List (List (List (List Nat)))) (l3:List (List (List Nat))):Option ((List (List (List (List Nat)))) × (List (List (List (List Nat)))) × (List (List (List Nat)))) :=
  fq ((k1:Nat):Int) b (⟨a.zn,a.zs,a.zq,(⟨l1,l2,l3⟩:aF)⟩:ai) >>= fun r2 =>
  some (r2.S,r2.Rows,r2.az)
def bY (a:ai) (b:List (List Nat)):Option aF :=
  pa (max 0 (a.zs.N).toNat) >>= fun u1 =>
  dU (fun k1 (st:(List (List (List (List Nat)))) × (List (List (List (List Nat)))) × (List (List (List Nat))))=>bq a b k1 st.1 st.2.1 st.2.2) ((max 0 (a.zs.N).toNat) - 0) 0 (a.zd.S,a.zd.Rows,a.zd.az) >>= fun (l4,l5,l6) =>
  some (⟨l4,l5,l6⟩:aF)
def gn (a:ai) (b:List (List (List Nat))):Option (Int × (List (List al)) × aF) :=
  pG 24 a.zs.N a.zs.N (([]:List Nat):List Nat) >>= fun l1 =>
  bX a b l1 >>= fun r1 =>
  ce a.zn r1 >>= fun r2 =>
  bY (⟨(⟨a.zn.zw,r2.2.1,r2.2.2,a.zn.am⟩:ap),a.zs,a.zq,a.zd⟩:ai) r2.1 >>= fun r3 =>
  some (r2.2.1,r2.2.2,r3)
def i4 (a:ap) (b:List (List (List Nat))):Option (aF × Int × (List (List al)) × (List ay)) :=
  bI a >>= fun r1 =>
  pG 24 r1.S.N r1.S.N ([]:List (List (List Nat))) >>= fun l1 =>
  pG 24 r1.S.N r1.S.N ([]:List (List Nat)) >>= fun l2 =>
  gS (⟨a,r1.S,b,(⟨l1,l1,l2⟩:aF)⟩:ai) >>= fun r2 =>
  ft (⟨(⟨a.zw,a.ah,a.au,r2.1⟩:ap),r1.S,b,r2.2⟩:ai) >>= fun r3 =>
  gH (⟨(⟨a.zw,r3.1,r3.2.1,r2.1⟩:ap),r1.S,b,r3.2.2⟩:ai) >>= fun r4 =>
  gn (⟨(⟨a.zw,r4.2.1,r4.2.2,r2.1⟩:ap),r1.S,b,r3.2.2⟩:ai) r4.1 >>= fun r5 =>
  some (r5.2.2,r5.1,r5.2.1,r2.1)
def a9 (a:av):Option Int :=
  some ((a.zd.Rows.length:Nat):Int)
def ly (k1:Nat) (x3:List Nat) (k2:Nat) (l3:List bK):Option (List bK) :=
  x3[k2]? >>= fun x5 =>
  bif ((x5:Nat):Int) != (0:Int) then
    dk 16 l3 ([(⟨((k1:Nat):Int),((k2:Nat):Int)⟩:bK)]:List bK) >>= fun l5 =>
    some l5
  else
    some l3
def ji (a:av) (b:Int) (k1:Nat) (l1:List bK):Option (List bK) :=
  a.zd.az[k1]? >>= fun x2 =>
  iK x2 b >>= fun x3 =>
  dU (fun k2 (st:(List bK))=>ly k1 x3 k2 st) (x3.length - 0) 0 l1 >>= fun l4 =>
  some l4
def fi (a:av) (b:Int):Option (List bK) :=
  a9 a >>= fun r1 =>
  pa (max 0 (r1).toNat) >>= fun u1 =>
  dU (fun k1 (st:(List bK))=>ji a b k1 st) ((max 0 (r1).toNat) - 0) 0 ([]:List bK) >>= fun l2 =>
  some l2
def pz (a:Int):Option Nat :=
  fI a (1:Int) >>= fun x1 =>
  some (qP x1) >>= fun x2 =>
  some x2
def kQ (a:Nat) (b:List (List Nat)) (c:Nat) (d:Nat):Option Nat :=
  ee a b c >>= fun r1 =>
  jd a r1 d >>= fun r2 =>
  some r2
def fP (a:av) (b:Int):Option Int :=
  iK a.zd.S b >>= fun x1 =>
  some ((x1.length:Nat):Int)
def iF (a:lL) (b:Int):Option ((List Nat) × (List Nat)) :=
  em a.zl b >>= fun r1 =>
  some (min b ((a.zl.length:Nat):Int)) >>= fun x1 =>
  pT a.zl x1 ((a.zl.length:Nat):Int) >>= fun l1 =>
  some (r1,l1)
def mj (a:av) (x3:bK) (x4:List (List (List Nat))) (k3:Nat) (l5:List Nat):Option (List Nat) :=
  x4[k3]? >>= fun x6 =>
  pz x3.e0 >>= fun r6 =>
  pz x3.e1 >>= fun r7 =>
  kQ a.zp x6 r6 r7 >>= fun r8 =>
  dk 8 l5 ([r8]:List Nat) >>= fun l7 =>
  some l7
def jN (a:av) (k1:Nat) (r3:(List bK)) (k2:Nat) (l3:List Nat):Option (List Nat) :=
  r3[k2]? >>= fun x3 =>
  a.zd.S[k1]? >>= fun x4 =>
  dU (fun k3 (st:(List Nat))=>mj a x3 x4 k3 st) (x4.length - 0) 0 l3 >>= fun l6 =>
  some l6
def jM (a:av) (k1:Nat) (l1:List (List Nat)):Option (List (List Nat)) :=
  fi a ((k1:Nat):Int) >>= fun r3 =>
  dU (fun k2 (st:(List Nat))=>jN a k1 r3 k2 st) (r3.length - 0) 0 ([]:List Nat) >>= fun l4 =>
  dk 24 l1 ([l4]:List (List Nat)) >>= fun l8 =>
  some l8
def fx (a:av) (r9:(List (List Nat)) × Int × (List (List al))) (k4:Nat) (k5:Nat) (l11:List Nat) (l12:List (List Nat)):Option ((List Nat) × (List (List Nat))) :=
  fP (⟨(⟨a.zn.zw,r9.2.1,r9.2.2,a.zn.am⟩:ap),a.zp,a.zd,a.aL,a.bJ,a.cH⟩:av) ((k4:Nat):Int) >>= fun r14 =>
  iF (⟨l11⟩:lL) r14 >>= fun r15 =>
  dk 24 l12 ([r15.1]:List (List Nat)) >>= fun l15 =>
  some (r15.2,l15)
def ml (a:av) (r9:(List (List Nat)) × Int × (List (List al))) (k4:Nat) (l9:List (List (List Nat))):Option (List (List (List Nat))) :=
  r9.1[k4]? >>= fun x8 =>
  fi (⟨(⟨a.zn.zw,r9.2.1,r9.2.2,a.zn.am⟩:ap),a.zp,a.zd,a.aL,a.bJ,a.cH⟩:av) ((k4:Nat):Int) >>= fun r12 =>
  dU (fun k5 (st:(List Nat) × (List (List Nat)))=>fx a r9 k4 k5 st.1 st.2) (r12.length - 0) 0 (x8,([]:List (List Nat))) >>= fun (l13,l14) =>
  dk 24 l9 ([l14]:List (List (List Nat))) >>= fun l16 =>
  some l16
def jt (a:av):Option ((List (List (List Nat))) × Int × (List (List al))) :=
  a9 a >>= fun r1 =>
  pa (max 0 (r1).toNat) >>= fun u1 =>
  dU (fun k1 (st:(List (List Nat)))=>jM a k1 st) ((max 0 (r1).toNat) - 0) 0 ([]:List (List Nat)) >>= fun l2 =>
  ce a.zn l2 >>= fun r9 =>
  a9 (⟨(⟨a.zn.zw,r9.2.1,r9.2.2,a.zn.am⟩:ap),a.zp,a.zd,a.aL,a.bJ,a.cH⟩:av) >>= fun r10 =>
  pa (max 0 (r10).toNat) >>= fun u2 =>
  dU (fun k4 (st:(List (List (List Nat))))=>ml a r9 k4 st) ((max 0 (r10).toNat) - 0) 0 ([]:List (List (List Nat))) >>= fun l10 =>
  some (l10,r9.2.1,r9.2.2)
def pA (a:bK) (b:Int):Option (List Int) :=
  (
    bif a.e0 == b then
      dk 8 ([]:List Int) ([a.e1]:List Int) >>= fun l2 =>
      some l2
    else
      some ([]:List Int)
  ) >>= fun l1 =>
  bif a.e1 == b then
    dk 8 l1 ([a.e0]:List Int) >>= fun l3 =>
    some l3
  else
    some l1
def kn (a:av) (b:Int) (c:Int) (d:Int):Option (List Nat) :=
  iK a.zd.Rows b >>= fun x1 =>
  iK x1 c >>= fun x2 =>
  iK x2 d >>= fun x3 =>
  some x3
def jQ (a:av) (b:Int) (c:Int) (x2:Int) (x3:List Nat) (k3:Nat):Option (Out Unit Bool) :=
  x3[k3]? >>= fun x4 =>
  kn a b c ((k3:Nat):Int) >>= fun r6 =>
  pz x2 >>= fun r7 =>
  jd a.zp r6 r7 >>= fun r8 =>
  bif ((r8:Nat):Int) != ((x4:Nat):Int) then
    some (.fin true)
  else
    some (.go ())
def jP (a:av) (b:Int) (c:Int) (d:List (List Nat)) (k1:Nat) (r3:(List Int)) (k2:Nat):Option (Out Unit Bool) :=
  r3[k2]? >>= fun x2 =>
  d[k1]? >>= fun x3 =>
  nq (fun k3 (st:Unit)=>jQ a b c x2 x3 k3) (x3.length - 0) 0 () >>= fun r5=>kB r5 (fun x=>some (.fin x)) fun _ =>
  some (.go ())
def jO (a:av) (b:Int) (c:Int) (d:List (List Nat)) (r1:(List bK)) (k1:Nat):Option (Out Unit Bool) :=
  r1[k1]? >>= fun x1 =>
  pA x1 b >>= fun r3 =>
  nq (fun k2 (st:Unit)=>jP a b c d k1 r3 k2) (r3.length - 0) 0 () >>= fun r4=>kB r4 (fun x=>some (.fin x)) fun _ =>
  some (.go ())
def ju (a:av) (b:Int) (c:Int) (d:List (List Nat)):Option Bool :=
  fi a c >>= fun r1 =>
  nq (fun k1 (st:Unit)=>jO a b c d r1 k1) (r1.length - 0) 0 () >>= fun r2=>kB r2 (fun x=>some x) fun _ =>
  some false
def gC (a:Int) (b:Int) (c:av) (d:List (List (List Nat))):Option Bool :=
  iK d b >>= fun x1 =>
  ju c a b x1 >>= fun r1 =>
  some r1
def kp (a:av) (b:List (List (List Nat))) (k1:Nat) (k2:Nat) (l3:List Nat):Option (List Nat) :=
  gC ((k1:Nat):Int) ((k2:Nat):Int) a b >>= fun r4 =>
  bif r4 then
    dk 8 l3 ([1]:List Nat) >>= fun l5 =>
    some l5
  else
    dk 8 l3 ([0]:List Nat) >>= fun l6 =>
    some l6
def ko (a:av) (b:List (List (List Nat))) (r1:Int) (k1:Nat) (l1:List (List Nat)):Option (List (List Nat)) :=
  dU (fun k2 (st:(List Nat))=>kp a b k1 k2 st) ((max 0 (r1).toNat) - 0) 0 ([]:List Nat) >>= fun l4 =>
  dk 24 l1 ([l4]:List (List Nat)) >>= fun l7 =>
  some l7
def gt (r5:(List (List Nat)) × Int × (List (List al))) (r6:Int) (k3:Nat) (k4:Nat) (l11:List (List Bool)):Option (List (List Bool)) :=
  l11[k3]? >>= fun x5 =>
  r5.1[k4]? >>= fun x6 =>
  em x6 r6 >>= fun r9 =>
  r9[k3]? >>= fun x7 =>
  dk 1 x5 ([((x7:Nat):Int) != (0:Int)]:List Bool) >>= fun l13 =>
  some (l11.set k3 l13) >>= fun l14 =>
  some l14
def dK (r5:(List (List Nat)) × Int × (List (List al))) (r6:Int) (k3:Nat) (l9:List (List Bool)):Option (List (List Bool)) :=
  pa (max 0 (r6).toNat) >>= fun u2 =>
  dU (fun k4 (st:(List (List Bool)))=>gt r5 r6 k3 k4 st) ((max 0 (r6).toNat) - 0) 0 l9 >>= fun l12 =>
  some l12
def eD (a:av) (b:List (List (List Nat))):Option ((List (List Bool)) × Int × (List (List al))) :=
  a9 a >>= fun r1 =>
  pa (max 0 (r1).toNat) >>= fun u1 =>
  dU (fun k1 (st:(List (List Nat)))=>ko a b r1 k1 st) ((max 0 (r1).toNat) - 0) 0 ([]:List (List Nat)) >>= fun l2 =>
  ce a.zn l2 >>= fun r5 =>
  a9 (⟨(⟨a.zn.zw,r5.2.1,r5.2.2,a.zn.am⟩:ap),a.zp,a.zd,a.aL,a.bJ,a.cH⟩:av) >>= fun r6 =>
  pG 24 r6 r6 ([]:List Bool) >>= fun l8 =>
  dU (fun k3 (st:(List (List Bool)))=>dK r5 r6 k3 st) (l8.length - 0) 0 l8 >>= fun l10 =>
  some (l10,r5.2.1,r5.2.2)
def nt (a:av) (k2:Nat) (x5:List (List (List Nat))) (k3:Nat) (l5:List Nat):Option (List Nat) :=
  x5[k3]? >>= fun x7 =>
  pz ((k2:Nat):Int) >>= fun r5 =>
  ee a.zp x7 r5 >>= fun r6 =>
  dk 8 l5 r6 >>= fun l7 =>
  some l7
def lm (a:av) (k1:Nat) (x2:List Bool) (k2:Nat) (l3:List Nat):Option (List Nat) :=
  x2[k2]? >>= fun x4 =>
  bif x4 then
    a.zd.S[k1]? >>= fun x5 =>
    dU (fun k3 (st:(List Nat))=>nt a k2 x5 k3 st) (x5.length - 0) 0 l3 >>= fun l6 =>
    some l6
  else
    some l3
def ll (a:av) (k1:Nat) (l1:List (List Nat)):Option (List (List Nat)) :=
  a.aL[k1]? >>= fun x2 =>
  dU (fun k2 (st:(List Nat))=>lm a k1 x2 k2 st) (x2.length - 0) 0 ([]:List Nat) >>= fun l4 =>
  dk 24 l1 ([l4]:List (List Nat)) >>= fun l8 =>
  some l8
def gR (x8:Int) (k5:Nat) (k6:Nat) (l16:List Nat) (l17:List (List (List Nat))):Option ((List Nat) × (List (List (List Nat)))) :=
  l17[k5]? >>= fun x15 =>
  iF (⟨l16⟩:lL) x8 >>= fun r15 =>
  dk 24 x15 ([r15.1]:List (List Nat)) >>= fun l20 =>
  some (l17.set k5 l20) >>= fun l21 =>
  some (r15.2,l21)
def fG (a:av) (r7:(List (List Nat)) × Int × (List (List al))) (x8:Int) (l9:List (List (List (List Nat)))) (k4:Nat) (x11:List Bool) (k5:Nat) (l12:List Nat) (l13:List (List (List Nat))):Option ((List Nat) × (List (List (List Nat)))) :=
  x11[k5]? >>= fun x13 =>
  bif x13 then
    fP (⟨(⟨a.zn.zw,r7.2.1,r7.2.2,a.zn.am⟩:ap),a.zp,a.zd,a.aL,a.bJ,l9⟩:av) ((k4:Nat):Int) >>= fun r13 =>
    pa (max 0 (r13).toNat) >>= fun u3 =>
    dU (fun k6 (st:(List Nat) × (List (List (List Nat))))=>gR x8 k5 k6 st.1 st.2) ((max 0 (r13).toNat) - 0) 0 (l12,l13) >>= fun (l18,l19) =>
    some (l18,l19)
  else
    some (l12,l13)
def nu (a:av) (r7:(List (List Nat)) × Int × (List (List al))) (x8:Int) (k4:Nat) (l9:List (List (List (List Nat)))):Option (List (List (List (List Nat)))) :=
  r7.1[k4]? >>= fun x10 =>
  a9 (⟨(⟨a.zn.zw,r7.2.1,r7.2.2,a.zn.am⟩:ap),a.zp,a.zd,a.aL,a.bJ,l9⟩:av) >>= fun r11 =>
  pG 24 r11 r11 ([]:List (List Nat)) >>= fun l11 =>
  a.aL[k4]? >>= fun x11 =>
  dU (fun k5 (st:(List Nat) × (List (List (List Nat))))=>fG a r7 x8 l9 k4 x11 k5 st.1 st.2) (x11.length - 0) 0 (x10,l11) >>= fun (l14,l15) =>
  dk 24 l9 ([l15]:List (List (List (List Nat)))) >>= fun l22 =>
  some l22
def lk (a:av):Option (Int × (List (List al)) × (List (List (List (List Nat))))) :=
  a9 a >>= fun r1 =>
  pa (max 0 (r1).toNat) >>= fun u1 =>
  dU (fun k1 (st:(List (List Nat)))=>ll a k1 st) ((max 0 (r1).toNat) - 0) 0 ([]:List (List Nat)) >>= fun l2 =>
  ce a.zn l2 >>= fun r7 =>
  bI (⟨a.zn.zw,r7.2.1,r7.2.2,a.zn.am⟩:ap) >>= fun r8 =>
  fI r8.S.T (1:Int) >>= fun x8 =>
  a9 (⟨(⟨a.zn.zw,r7.2.1,r7.2.2,a.zn.am⟩:ap),a.zp,a.zd,a.aL,a.bJ,a.cH⟩:av) >>= fun r9 =>
  pa (max 0 (r9).toNat) >>= fun u2 =>
  dU (fun k4 (st:(List (List (List (List Nat)))))=>nu a r7 x8 k4 st) ((max 0 (r9).toNat) - 0) 0 a.cH >>= fun l10 =>
  some (r7.2.1,r7.2.2,l10)
def iZ (a:av) (b:Int) (c:Int) (k1:Nat) (x4:List (List Nat)) (k2:Nat):Option (Out Unit Bool) :=
  x4[k2]? >>= fun x5 =>
  pz b >>= fun r3 =>
  jd a.zp x5 r3 >>= fun r4 =>
  kn a b c ((k2:Nat):Int) >>= fun r5 =>
  pz ((k1:Nat):Int) >>= fun r6 =>
  jd a.zp r5 r6 >>= fun r7 =>
  bif ((r4:Nat):Int) != ((r7:Nat):Int) then
    some (.fin true)
  else
    some (.go ())
def iY (a:av) (b:Int) (c:Int) (x3:List (List (List Nat))) (k1:Nat):Option (Out Unit Bool) :=
  x3[k1]? >>= fun x4 =>
  nq (fun k2 (st:Unit)=>iZ a b c k1 x4 k2) (x4.length - 0) 0 () >>= fun r2=>kB r2 (fun x=>some (.fin x)) fun _ =>
  some (.go ())
def cZ (a:av) (b:Int) (c:Int):Option Bool :=
  iK a.aL c >>= fun x1 =>
  iK x1 b >>= fun x2 =>
  bif x2 then
    some false
  else
    iK a.cH c >>= fun x3 =>
    nq (fun k1 (st:Unit)=>iY a b c x3 k1) (x3.length - 0) 0 () >>= fun r1=>kB r1 (fun x=>some x) fun _ =>
    some false
def jl (a:av) (k1:Nat) (k2:Nat) (l3:List Nat):Option (List Nat) :=
  cZ a ((k1:Nat):Int) ((k2:Nat):Int) >>= fun r4 =>
  bif r4 then
    dk 8 l3 ([1]:List Nat) >>= fun l5 =>
    some l5
  else
    dk 8 l3 ([0]:List Nat) >>= fun l6 =>
    some l6
def jk (a:av) (r1:Int) (k1:Nat) (l1:List (List Nat)):Option (List (List Nat)) :=
  dU (fun k2 (st:(List Nat))=>jl a k1 k2 st) ((max 0 (r1).toNat) - 0) 0 ([]:List Nat) >>= fun l4 =>
  dk 24 l1 ([l4]:List (List Nat)) >>= fun l7 =>
  some l7
def jn (r5:(List (List Nat)) × Int × (List (List al))) (r6:Int) (k3:Nat) (k4:Nat) (l11:List (List Bool)):Option (List (List Bool)) :=
  l11[k3]? >>= fun x5 =>
  r5.1[k4]? >>= fun x6 =>
  em x6 r6 >>= fun r9 =>
  r9[k3]? >>= fun x7 =>
  dk 1 x5 ([((x7:Nat):Int) != (0:Int)]:List Bool) >>= fun l13 =>
  some (l11.set k3 l13) >>= fun l14 =>
  some l14
def jm (r5:(List (List Nat)) × Int × (List (List al))) (r6:Int) (k3:Nat) (l9:List (List Bool)):Option (List (List Bool)) :=
  pa (max 0 (r6).toNat) >>= fun u2 =>
  dU (fun k4 (st:(List (List Bool)))=>jn r5 r6 k3 k4 st) ((max 0 (r6).toNat) - 0) 0 l9 >>= fun l12 =>
  some l12
def dx (a:av):Option ((List (List Bool)) × Int × (List (List al))) :=
  a9 a >>= fun r1 =>
  pa (max 0 (r1).toNat) >>= fun u1 =>
  dU (fun k1 (st:(List (List Nat)))=>jk a r1 k1 st) ((max 0 (r1).toNat) - 0) 0 ([]:List (List Nat)) >>= fun l2 =>
  ce a.zn l2 >>= fun r5 =>
  a9 (⟨(⟨a.zn.zw,r5.2.1,r5.2.2,a.zn.am⟩:ap),a.zp,a.zd,a.aL,a.bJ,a.cH⟩:av) >>= fun r6 =>
  pG 24 r6 r6 ([]:List Bool) >>= fun l8 =>
  dU (fun k3 (st:(List (List Bool)))=>jm r5 r6 k3 st) (l8.length - 0) 0 l8 >>= fun l10 =>
  some (l10,r5.2.1,r5.2.2)
def lK (a:av) (b:Int) (k1:Nat) (x1:Int):Option Int :=
  iK a.aL b >>= fun x4 =>
  x4[k1]? >>= fun x5 =>
  bif x5 then
    fI x1 (1:Int) >>= fun x6 =>
    some x6
  else
    iK a.bJ b >>= fun x7 =>
    x7[k1]? >>= fun x8 =>
    bif x8 then
      fI x1 (1:Int) >>= fun x9 =>
      some x9
    else
      some x1
def lP (a:av) (b:Int):Option Bool :=
  a9 a >>= fun r1 =>
  pa (max 0 (r1).toNat) >>= fun u1 =>
  dU (fun k1 (st:Int)=>lK a b k1 st) ((max 0 (r1).toNat) - 0) 0 ((0:Nat):Int) >>= fun x3 =>
  bI a.zn >>= fun r3 =>
  some (decide (x3 > r3.S.T))
def nr (a:av) (k1:Nat) (l2:List (List Nat)):Option (List (List Nat)) :=
  bI a.zn >>= fun r3 =>
  fI r3.S.T (1:Int) >>= fun x2 =>
  pG 8 x2 x2 (0:Nat) >>= fun l4 =>
  l2[k1]? >>= fun x3 =>
  some (l2.set k1 l4) >>= fun l5 =>
  some l5
def lj (a:av) (b:Int) (c:Int) (d:Bool):Option (List (List Nat)) :=
  bif d then
    fP a c >>= fun r1 =>
    pG 24 r1 r1 (([]:List Nat):List Nat) >>= fun l1 =>
    dU (fun k1 (st:(List (List Nat)))=>nr a k1 st) (l1.length - 0) 0 l1 >>= fun l3 =>
    some l3
  else
    iK a.aL c >>= fun x4 =>
    iK x4 b >>= fun x5 =>
    bif x5 then
      iK a.cH c >>= fun x6 =>
      iK x6 b >>= fun x7 =>
      some x7
    else
      iK a.zd.Rows b >>= fun x8 =>
      iK x8 c >>= fun x9 =>
      bZ x9 >>= fun r4 =>
      some r4
def pH (a:ap) (b:aF) (r1:ab) (r3:(List (List Bool)) × Int × (List (List al))) (r4:Int × (List (List al)) × (List (List (List (List Nat))))) (r5:(List (List Bool)) × Int × (List (List al))) (k1:Nat) (l1:List Bool):Option (List Bool) :=
  lP (⟨(⟨a.zw,r5.2.1,r5.2.2,a.am⟩:ap),r1.S.P,b,r3.1,r5.1,r4.2.2⟩:av) ((k1:Nat):Int) >>= fun r8 =>
  dk 1 l1 ([r8]:List Bool) >>= fun l3 =>
  some l3
def pJ (a:ap) (b:aF) (r1:ab) (r3:(List (List Bool)) × Int × (List (List al))) (r4:Int × (List (List al)) × (List (List (List (List Nat))))) (r5:(List (List Bool)) × Int × (List (List al))) (l2:List Bool) (k2:Nat) (k3:Nat) (l6:List (List (List Nat))):Option (List (List (List Nat))) :=
  l2[k3]? >>= fun x4 =>
  lj (⟨(⟨a.zw,r5.2.1,r5.2.2,a.am⟩:ap),r1.S.P,b,r3.1,r5.1,r4.2.2⟩:av) ((k2:Nat):Int) ((k3:Nat):Int) x4 >>= fun r11 =>
  dk 24 l6 ([r11]:List (List (List Nat))) >>= fun l8 =>
  some l8
def pI (a:ap) (b:aF) (r1:ab) (r3:(List (List Bool)) × Int × (List (List al))) (r4:Int × (List (List al)) × (List (List (List (List Nat))))) (r5:(List (List Bool)) × Int × (List (List al))) (r6:Int) (l2:List Bool) (k2:Nat) (l4:List (List (List (List Nat)))):Option (List (List (List (List Nat)))) :=
  dU (fun k3 (st:(List (List (List Nat))))=>pJ a b r1 r3 r4 r5 l2 k2 k3 st) ((max 0 (r6).toNat) - 0) 0 ([]:List (List (List Nat))) >>= fun l7 =>
  dk 24 l4 ([l7]:List (List (List (List Nat)))) >>= fun l9 =>
  some l9
def mL (a:ap) (b:aF):Option (bm × Int × (List (List al))) :=
  bI a >>= fun r1 =>
  jt (⟨a,r1.S.P,b,([]:List (List Bool)),([]:List (List Bool)),([]:List (List (List (List Nat))))⟩:av) >>= fun r2 =>
  eD (⟨(⟨a.zw,r2.2.1,r2.2.2,a.am⟩:ap),r1.S.P,b,([]:List (List Bool)),([]:List (List Bool)),([]:List (List (List (List Nat))))⟩:av) r2.1 >>= fun r3 =>
  lk (⟨(⟨a.zw,r3.2.1,r3.2.2,a.am⟩:ap),r1.S.P,b,r3.1,([]:List (List Bool)),([]:List (List (List (List Nat))))⟩:av) >>= fun r4 =>
  dx (⟨(⟨a.zw,r4.1,r4.2.1,a.am⟩:ap),r1.S.P,b,r3.1,([]:List (List Bool)),r4.2.2⟩:av) >>= fun r5 =>
  a9 (⟨(⟨a.zw,r5.2.1,r5.2.2,a.am⟩:ap),r1.S.P,b,r3.1,r5.1,r4.2.2⟩:av) >>= fun r6 =>
  pa (max 0 (r6).toNat) >>= fun u1 =>
  dU (fun k1 (st:(List Bool))=>pH a b r1 r3 r4 r5 k1 st) ((max 0 (r6).toNat) - 0) 0 ([]:List Bool) >>= fun l2 =>
  dU (fun k2 (st:(List (List (List (List Nat)))))=>pI a b r1 r3 r4 r5 r6 l2 k2 st) ((max 0 (r6).toNat) - 0) 0 ([]:List (List (List (List Nat)))) >>= fun l5 =>
  some ((⟨l5,l2⟩:bm),r5.2.1,r5.2.2)
def qQ (a:ap) (b:List (List (List Nat))):Option (bm × Int × (List (List al)) × (List ay)) :=
  i4 a b >>= fun r1 =>
  mL (⟨a.zw,r1.2.1,r1.2.2.1,r1.2.2.2⟩:ap) r1.1 >>= fun r2 =>
  some (r2.1,r2.2.1,r2.2.2,r1.2.2.2)
def jX (a:Int) (k1:Nat) (l1:List Nat):Option (List Nat) :=
  fI a ((k1:Nat):Int) >>= fun x2 =>
  some (qP x2) >>= fun x3 =>
  dk 8 l1 ([x3]:List Nat) >>= fun l3 =>
  some l3
def eh (a:Int) (b:Int):Option (List Nat) :=
  pa (max 0 (b).toNat) >>= fun u1 =>
  dU (fun k1 (st:(List Nat))=>jX a k1 st) ((max 0 (b).toNat) - 0) 0 ([]:List Nat) >>= fun l2 =>
  some l2
def nK (a:Nat):Option Int :=
  kv a >>= fun r1 =>
  some r1
def jT (a:Nat):Option Bool :=
  some (((a:Nat):Int) != ((a:Nat):Int))
def ku (a:Nat) (b:Nat):Option Bool :=
  jT a >>= fun r1 =>
  bif r1 then
    jT b >>= fun r2 =>
    bif !r2 then
      some true
    else
      some (decide (((a:Nat):Int) < ((b:Nat):Int)))
  else
    some (decide (((a:Nat):Int) < ((b:Nat):Int)))
def cc (a:Int) (l4:List Nat) (x3:Int):Option (Out ((List Nat) × Int) (List Nat)) :=
  (
    bif decide (x3 > a) then
      iK l4 x3 >>= fun x5 =>
      kj x3 (1:Int) >>= fun x6 =>
      iK l4 x6 >>= fun x7 =>
      ku x5 x7 >>= fun r3 =>
      some r3
    else
      some false
  ) >>= fun x4 =>
  bif x4 then
    kj x3 (1:Int) >>= fun x8 =>
    iK l4 x8 >>= fun x9 =>
    iK l4 x3 >>= fun x10 =>
    some (l4.set x3.toNat x9) >>= fun l7 =>
    iK l7 x8 >>= fun x11 =>
    some (l7.set x8.toNat x10) >>= fun l8 =>
    some (.go (l8,x8))
  else
    some (.fin l4)
def cb (a:Int) (b:Int) (l1:List Nat) (x2:Int):Option (Out ((List Nat) × Int) (List Nat)) :=
  bif decide (x2 < b) then
    sP (fun (st:(List Nat) × Int)=>cc a st.1 st.2) big (l1,x2) >>= fun l6 =>
    fI x2 (1:Int) >>= fun x12 =>
    some (.go (l6,x12))
  else
    some (.fin l1)
def cV (a:List Nat) (b:Int) (c:Int):Option (List Nat) :=
  fI b (1:Int) >>= fun x1 =>
  sP (fun (st:(List Nat) × Int)=>cb b c st.1 st.2) big (a,x1) >>= fun l3 =>
  some l3
def di (a:List Nat) (b:Int) (c:Int):Option (Out Unit ((List Nat) ⊕ Unit)) :=
  kj c b >>= fun x1 =>
  bif decide (x1≤(12:Int)) then
    cV a b c >>= fun r2 =>
    some (.fin (.inl r2))
  else
    none
def fO (a:List Nat) (b:Int) (c:Int) (d:Int):Option (List Nat) :=
  sP (fun (st:Unit)=>di a b c) big () >>= fun r1=>Fi r1 (fun x=>some x) fun _ =>
  none
def eB (a:List Nat):Option (List Nat) :=
  some (qP ((a.length:Nat):Int)) >>= fun x1 =>
  nK x1 >>= fun r1 =>
  fO a ((0:Nat):Int) ((a.length:Nat):Int) r1 >>= fun r2 =>
  some r2
def eA (a:List Nat) (x1:Int):Option (Out Int Unit) :=
  bif decide (x1 < ((a.length:Nat):Int)) then
    iK a x1 >>= fun x2 =>
    kj x1 (1:Int) >>= fun x3 =>
    iK a x3 >>= fun x4 =>
    bif ((x2:Nat):Int) == ((x4:Nat):Int) then
      none
    else
      fI x1 (1:Int) >>= fun x5 =>
      some (.go x5)
  else
    some (.fin ())
def dH (a:List Nat):Option (List Nat) :=
  bif decide (((a.length:Nat):Int) < (2:Int)) then
    some a
  else
    sP (fun (st:Int)=>eA a st) big ((1:Nat):Int) >>= fun _ =>
    some a
def gy (a:List Nat):Option Bool :=
  cE a >>= fun r1 =>
  eB r1 >>= fun r2 =>
  dH r2 >>= fun r3 =>
  some (((r3.length:Nat):Int) == ((a.length:Nat):Int))
def oA (a:Nat) (b:Nat):Option Nat :=
  bif ((b:Nat):Int) == (0:Int) then
    some 0
  else
    some (uT a b) >>= fun x1 =>
    some x1
def mN (a:Nat) (b:Nat) (c:Nat):Option Nat :=
  oA a c >>= fun r1 =>
  jb a b r1 >>= fun r2 =>
  some r2
def fu (a:Nat) (b:Nat) (c:Nat) (d:Nat) (e:Nat) (f:Nat):Option (Nat × Nat) :=
  mN b d a >>= fun r1 =>
  dQ b c r1 >>= fun r2 =>
  mN b f a >>= fun r3 =>
  dQ b e r3 >>= fun r4 =>
  some (r2,r4)
def bj (a:List Nat) (b:Int) (c:Nat) (d:Nat) (e:Nat) (k1:Nat) (x1:Nat) (x2:Nat):Option (Nat × Nat) :=
  a[k1]? >>= fun x6 =>
  bif ((k1:Nat):Int) != b then
    fu x6 c x1 d x2 e >>= fun r2 =>
    some (r2.1,r2.2)
  else
    some (x1,x2)
def cv (a:List Nat) (b:Int) (c:Nat) (d:Nat) (e:Nat) (f:Nat) (g:Nat):Option (Nat × Nat) :=
  dU (fun k1 (st:Nat × Nat)=>bj a b c e g k1 st.1 st.2) (a.length - 0) 0 (d,f) >>= fun (x4,x5) =>
  some (x4,x5)
def kW (a:Nat) (x1:Nat) (x2:Nat) (x3:Nat):Option (Out (Nat × Nat × Nat) Nat) :=
  bif decide (((x2:Nat):Int) > (0:Int)) then
    some (ti x2 1) >>= fun x6 =>
    bif ((x6:Nat):Int) == (1:Int) then
      dQ a x3 x1 >>= fun r2 =>
      dQ a x1 x1 >>= fun r3 =>
      rB x2 (1:Int) >>= fun x7 =>
      some (.go (r3,x7,r2))
    else
      dQ a x1 x1 >>= fun r4 =>
      rB x2 (1:Int) >>= fun x8 =>
      some (.go (r4,x8,x3))
  else
    some (.fin x3)
def qH (a:Nat) (b:Nat) (c:Nat):Option Nat :=
  sP (fun (st:Nat × Nat × Nat)=>kW a st.1 st.2.1 st.2.2) big (b,c,1) >>= fun x5 =>
  some x5
def lN (a:Nat) (b:Nat):Option (Nat × Int) :=
  bif ((b:Nat):Int) == (0:Int) then
    some (0,((8:Nat):Int))
  else
    some (uT a 2) >>= fun x1 =>
    qH a b x1 >>= fun r1 =>
    some (r1,((0:Nat):Int))
def iA (a:Nat) (b:Nat) (c:Nat):Option Nat :=
  lN a c >>= fun r1 =>
  dQ a b r1.1 >>= fun r2 =>
  some r2
def fa (a:Nat) (b:List Nat) (c:Nat) (k1:Nat) (l1:List Nat):Option (List Nat) :=
  b[k1]? >>= fun x2 =>
  cv b ((k1:Nat):Int) a 1 c 1 x2 >>= fun r3 =>
  iA a r3.1 r3.2 >>= fun r4 =>
  dk 8 l1 ([r4]:List Nat) >>= fun l3 =>
  some l3
def dR (a:Nat) (b:List Nat) (c:Nat):Option ((List Nat) × Int) :=
  gy b >>= fun r1 =>
  bif !r1 then
    some (([]:List Nat),((1:Nat):Int))
  else
    dU (fun k1 (st:(List Nat))=>fa a b c k1 st) (b.length - 0) 0 ([]:List Nat) >>= fun l2 =>
    some (l2,((0:Nat):Int))
def iM (a:Nat) (r1:(List Nat)) (r2:(List Nat)) (k1:Nat) (l1:List (List Nat)):Option (Out (List (List Nat)) ((List (List Nat)) × Int)) :=
  r2[k1]? >>= fun x6 =>
  dR a r1 x6 >>= fun r4 =>
  bif r4.2 != (0:Int) then
    some (.fin (([]:List (List Nat)),r4.2))
  else
    dk 24 l1 ([r4.1]:List (List Nat)) >>= fun l4 =>
    some (.go l4)
def fQ (a:Nat) (b:Int) (c:Int):Option ((List (List Nat)) × Int) :=
  (
    bif decide (b < (1:Int)) then
      some true
    else
      bif decide (b > (26:Int)) then
        some true
      else
        bif decide (c < (1:Int)) then
          some true
        else
          bif decide (c > (26:Int)) then
            some true
          else
            fI b c >>= fun x2 =>
            some (qP x2) >>= fun x3 =>
            some (decide (((x3:Nat):Int) ≥ ((a:Nat):Int)))
  ) >>= fun x1 =>
  bif x1 then
    some (([]:List (List Nat)),((2:Nat):Int))
  else
    eh ((1:Nat):Int) c >>= fun r1 =>
    fI c (1:Int) >>= fun x4 =>
    eh x4 b >>= fun r2 =>
    nq (fun k1 (st:(List (List Nat)))=>iM a r1 r2 k1 st) (r2.length - 0) 0 ([]:List (List Nat)) >>= fun r3=>kB r3 (fun x=>some x) fun l2 =>
    some (l2,((0:Nat):Int))
def oV (a:bm) (b:Int) (c:Int) (k1:Nat) (l1:List (List Nat)):Option (List (List Nat)) :=
  a.Rows[k1]? >>= fun x2 =>
  kj b (1:Int) >>= fun x3 =>
  iK x2 x3 >>= fun x4 =>
  iK x4 c >>= fun x5 =>
  dk 24 l1 ([x5]:List (List Nat)) >>= fun l3 =>
  some l3
def lO (a:bm) (b:Int) (c:Int):Option (List (List Nat)) :=
  dU (fun k1 (st:(List (List Nat)))=>oV a b c k1 st) (a.Rows.length - 0) 0 ([]:List (List Nat)) >>= fun l2 =>
  some l2
def m9 (a:Nat) (b:Nat) (c:Nat) (d:Nat):Option Nat :=
  dQ a d b >>= fun r1 =>
  some r1
def eY (a:Nat) (b:Nat) (c:Nat) (d:Nat):Option Nat :=
  m9 d a b c >>= fun r1 =>
  some r1
def bP (a:List Nat) (b:List Nat) (c:Nat) (d:Nat) (k1:Nat) (l2:List Nat):Option (List Nat) :=
  a[k1]? >>= fun x2 =>
  b[k1]? >>= fun x3 =>
  eY x2 x3 c d >>= fun r2 =>
  l2[k1]? >>= fun x4 =>
  some (l2.set k1 r2) >>= fun l4 =>
  some l4
def bW (a:List Nat) (b:List Nat) (c:Nat) (d:Nat):Option (List Nat) :=
  pG 8 ((a.length:Nat):Int) ((a.length:Nat):Int) (0:Nat) >>= fun l1 =>
  dU (fun k1 (st:(List Nat))=>bP a b c d k1 st) (a.length - 0) 0 l1 >>= fun l3 =>
  some l3
def dG (a:List Nat) (b:List Nat) (c:Nat) (d:Nat):Option (List Nat) :=
  bW a b c d >>= fun r1 =>
  some r1
def bO (a:List (List Nat)) (b:List (List Nat)) (c:Nat) (d:Nat) (k1:Nat) (l2:List (List Nat)):Option (List (List Nat)) :=
  a[k1]? >>= fun x2 =>
  b[k1]? >>= fun x3 =>
  dG x2 x3 c d >>= fun r2 =>
  l2[k1]? >>= fun x4 =>
  some (l2.set k1 r2) >>= fun l4 =>
  some l4
def bV (a:List (List Nat)) (b:List (List Nat)) (c:Nat) (d:Nat):Option (List (List Nat)) :=
  pG 24 ((a.length:Nat):Int) ((a.length:Nat):Int) (([]:List Nat):List Nat) >>= fun l1 =>
  dU (fun k1 (st:(List (List Nat)))=>bO a b c d k1 st) (a.length - 0) 0 l1 >>= fun l3 =>
  some l3
def gb (a:Nat) (b:List (List Nat)) (c:List (List Nat)) (d:Nat):Option (List (List Nat)) :=
  bV b c d a >>= fun r1 =>
  some r1
def mK (a:Nat) (b:Nat) (c:List (List Nat)):Option (List (List Nat)) :=
  gb a c c b >>= fun r1 =>
  some r1
def lI (a:Nat) (b:Nat) (c:Nat):Option Nat :=
  jb c a b >>= fun r1 =>
  some r1
def cA (a:List Nat) (b:List Nat) (c:Nat) (k1:Nat) (l2:List Nat):Option (List Nat) :=
  a[k1]? >>= fun x2 =>
  b[k1]? >>= fun x3 =>
  lI x2 x3 c >>= fun r2 =>
  l2[k1]? >>= fun x4 =>
  some (l2.set k1 r2) >>= fun l4 =>
  some l4
def cR (a:List Nat) (b:List Nat) (c:Nat):Option (List Nat) :=
  pG 8 ((a.length:Nat):Int) ((a.length:Nat):Int) (0:Nat) >>= fun l1 =>
  dU (fun k1 (st:(List Nat))=>cA a b c k1 st) (a.length - 0) 0 l1 >>= fun l3 =>
  some l3
def lg (a:List Nat) (b:List Nat) (c:Nat):Option (List Nat) :=
  cR a b c >>= fun r1 =>
  some r1
def cz (a:List (List Nat)) (b:List (List Nat)) (c:Nat) (k1:Nat) (l2:List (List Nat)):Option (List (List Nat)) :=
  a[k1]? >>= fun x2 =>
  b[k1]? >>= fun x3 =>
  lg x2 x3 c >>= fun r2 =>
  l2[k1]? >>= fun x4 =>
  some (l2.set k1 r2) >>= fun l4 =>
  some l4
def cQ (a:List (List Nat)) (b:List (List Nat)) (c:Nat):Option (List (List Nat)) :=
  pG 24 ((a.length:Nat):Int) ((a.length:Nat):Int) (([]:List Nat):List Nat) >>= fun l1 =>
  dU (fun k1 (st:(List (List Nat)))=>cz a b c k1 st) (a.length - 0) 0 l1 >>= fun l3 =>
  some l3
def iX (a:Nat) (b:List (List Nat)) (c:List (List Nat)):Option (List (List Nat)) :=
  cQ b c a >>= fun r1 =>
  some r1
def pv (a:Nat) (b:List (List Nat)) (c:List (List Nat)):Option (List (List Nat)) :=
  iX a b c >>= fun r1 =>
  some r1
def j9 (a:Nat) (b:List (List (List Nat))) (k1:Nat) (l1:List (List Nat)):Option (List (List Nat)) :=
  b[k1]? >>= fun x2 =>
  pv a l1 x2 >>= fun r2 =>
  some r2
def jW (a:Nat) (b:List (List Nat)) (c:List (List (List Nat))):Option (List (List Nat)) :=
  dU (fun k1 (st:(List (List Nat)))=>j9 a c k1 st) (c.length - 0) 0 b >>= fun l2 =>
  some l2
def fL (k1:Nat) (x3:Int) (r5:(List Nat) × Int × Int) (k2:Nat) (l7:List (List (List Nat))):Option (List (List (List Nat))) :=
  l7[k1]? >>= fun x7 =>
  mf ((k2:Nat):Int) x3 >>= fun x8 =>
  fI ((k2:Nat):Int) (1:Int) >>= fun x9 =>
  mf x9 x3 >>= fun x10 =>
  pT r5.1 x8 x10 >>= fun l9 =>
  dk 24 x7 ([l9]:List (List Nat)) >>= fun l10 =>
  some (l7.set k1 l10) >>= fun l11 =>
  some l11
def cx (a:ap) (r1:ab) (r2:Int) (k1:Nat) (l2:List ay) (l3:List (List (List Nat))):Option ((List ay) × (List (List (List Nat)))) :=
  fI ((k1:Nat):Int) (1:Int) >>= fun x2 =>
  fb (⟨a.zw,a.ah,a.au,l2⟩:ap) x2 >>= fun r4 =>
  fI r1.S.T (1:Int) >>= fun x3 =>
  mf r2 x3 >>= fun x4 =>
  l2[r4]? >>= fun x5 =>
  jJ x5 x4 >>= fun r5 =>
  some (l2.set r4 (⟨x5.gD,r5.2.2⟩:ay)) >>= fun l6 =>
  pa (max 0 (r2).toNat) >>= fun u1 =>
  dU (fun k2 (st:(List (List (List Nat))))=>fL k1 x3 r5 k2 st) ((max 0 (r2).toNat) - 0) 0 l3 >>= fun l8 =>
  some (l6,l8)
def fN (r1:ab) (r7:bm × Int × (List (List al)) × (List ay)) (k3:Nat) (x14:List Nat) (k5:Nat) (l16:List (List (List Nat))):Option (List (List (List Nat))) :=
  x14[k5]? >>= fun x16 =>
  fI ((k5:Nat):Int) (1:Int) >>= fun x17 =>
  lO r7.1 x17 ((k3:Nat):Int) >>= fun r12 =>
  mK r1.S.P x16 r12 >>= fun r13 =>
  dk 24 l16 ([r13]:List (List (List Nat))) >>= fun l18 =>
  some l18
def dL (r1:ab) (r7:bm × Int × (List (List al)) × (List ay)) (r8:(List (List Nat)) × Int) (k3:Nat) (k4:Nat) (l14:List (List (List Nat))):Option (List (List (List Nat))) :=
  r8.1[k4]? >>= fun x14 =>
  dU (fun k5 (st:(List (List (List Nat))))=>fN r1 r7 k3 x14 k5 st) (x14.length - 0) 0 ([]:List (List (List Nat))) >>= fun l17 =>
  l17[0]? >>= fun x18 =>
  pT l17 (1:Int) ((l17.length:Nat):Int) >>= fun l19 =>
  jW r1.S.P x18 l19 >>= fun r14 =>
  dk 24 l14 ([r14]:List (List (List Nat))) >>= fun l20 =>
  some l20
def fM (r1:ab) (r7:bm × Int × (List (List al)) × (List ay)) (r8:(List (List Nat)) × Int) (k3:Nat) (l12:List (List (List Nat))):Option (List (List (List Nat))) :=
  dU (fun k4 (st:(List (List (List Nat))))=>dL r1 r7 r8 k3 k4 st) (r8.1.length - 0) 0 l12 >>= fun l15 =>
  some l15
def cw (a:ap) (b:Int):Option ((List (List (List Nat))) × Int × (List (List al)) × (List ay)) :=
  bif b == (0:Int) then
    some (([]:List (List (List Nat))),a.ah,a.au,a.am)
  else
    bI a >>= fun r1 =>
    gA r1.S b >>= fun r2 =>
    pG 24 r1.S.N r1.S.N ([]:List (List Nat)) >>= fun l1 =>
    dU (fun k1 (st:(List ay) × (List (List (List Nat))))=>cx a r1 r2 k1 st.1 st.2) (l1.length - 0) 0 (a.am,l1) >>= fun (l4,l5) =>
    qQ (⟨a.zw,a.ah,a.au,l4⟩:ap) l5 >>= fun r7 =>
    kj r1.S.N r1.S.T >>= fun x11 =>
    fQ r1.S.P x11 r1.S.N >>= fun r8 =>
    pa (max 0 (r2).toNat) >>= fun u2 =>
    dU (fun k3 (st:(List (List (List Nat))))=>fM r1 r7 r8 k3 st) ((max 0 (r2).toNat) - 0) 0 ([]:List (List (List Nat))) >>= fun l13 =>
    pT l13 (0:Int) b >>= fun l21 =>
    some (l21,r7.2.1,r7.2.2.1,r7.2.2.2)
def jY (a:ap):Option ((List (List (List Nat))) × Int) :=
  some (([]:List (List (List Nat))),((0:Nat):Int))
def fg (a:List Nat) (b:Nat) (k1:Nat):Option (Out Unit Int) :=
  a[k1]? >>= fun x1 =>
  bif ((b:Nat):Int) == ((x1:Nat):Int) then
    some (.fin ((k1:Nat):Int))
  else
    some (.go ())
def gf (a:List Nat) (b:Nat):Option Int :=
  nq (fun k1 (st:Unit)=>fg a b k1) (a.length - 0) 0 () >>= fun r1=>kB r1 (fun x=>some x) fun _ =>
  some (-1)
def dw (a:List Nat) (b:Nat):Option Bool :=
  gf a b >>= fun r1 =>
  some (decide (r1 ≥ (0:Int)))
def lC (a:Int) (b:List Nat) (c:List (List Nat)) (k1:Nat):Option (Out Unit Bool) :=
  b[k1]? >>= fun x3 =>
  pT b (0:Int) ((k1:Nat):Int) >>= fun l1 =>
  dw l1 x3 >>= fun r2 =>
  bif r2 then
    some (.fin false)
  else
    c[k1]? >>= fun x4 =>
    fI a (1:Int) >>= fun x5 =>
    bif ((x4.length:Nat):Int) != x5 then
      some (.fin false)
    else
      some (.go ())
def lM (a:Int) (b:List Nat) (c:List (List Nat)):Option Bool :=
  (
    bif decide (a < (0:Int)) then
      some true
    else
      bif ((b.length:Nat):Int) != ((c.length:Nat):Int) then
        some true
      else
        fI a (1:Int) >>= fun x2 =>
        some (decide (((c.length:Nat):Int) < x2))
  ) >>= fun x1 =>
  bif x1 then
    some false
  else
    nq (fun k1 (st:Unit)=>lC a b c k1) (b.length - 0) 0 () >>= fun r1=>kB r1 (fun x=>some x) fun _ =>
    some true
def my (a:Int) (l1:List Nat):Option (Out (List Nat) (List Nat)) :=
  bif decide (((l1.length:Nat):Int)≤a) then
    dk 8 l1 ([0]:List Nat) >>= fun l4 =>
    some (.go l4)
  else
    some (.fin l1)
def fo (a:mQ) (b:Int) (c:Nat):Option (List Nat) :=
  sP (fun (st:(List Nat))=>my b st) big a.zf >>= fun l3 =>
  iK l3 b >>= fun x1 =>
  jb a.zp x1 c >>= fun r2 =>
  some (l3.set b.toNat r2) >>= fun l5 =>
  some l5
def m8 (a:List Nat) (x2:Int):Option (Out Int (Int ⊕ Unit)) :=
  bif decide (x2 ≥ (0:Int)) then
    iK a x2 >>= fun x3 =>
    bif ((x3:Nat):Int) != (0:Int) then
      some (.fin (.inl x2))
    else
      kj x2 (1:Int) >>= fun x4 =>
      some (.go x4)
  else
    some (.fin (.inr ()))
def nn (a:List Nat):Option Int :=
  kj ((a.length:Nat):Int) (1:Int) >>= fun x1 =>
  sP (fun (st:Int)=>m8 a st) big x1 >>= fun r1=>Fi r1 (fun x=>some x) fun _ =>
  some (-1)
def kJ (a:List Nat):Option (List Nat) :=
  nn a >>= fun r1 =>
  fI r1 (1:Int) >>= fun x1 =>
  pT a (0:Int) x1 >>= fun l1 =>
  dk 8 ([]:List Nat) l1 >>= fun l2 =>
  some l2
def qs (a:Nat) (b:List Nat) (k1:Nat) (x2:Nat) (k2:Nat) (l3:List Nat):Option (List Nat) :=
  b[k2]? >>= fun x4 =>
  fI ((k1:Nat):Int) ((k2:Nat):Int) >>= fun x5 =>
  dQ a x2 x4 >>= fun r3 =>
  fo (⟨a,l3⟩:mQ) x5 r3 >>= fun r4 =>
  some r4
def qq (a:Nat) (b:List Nat) (c:List Nat) (k1:Nat) (l1:List Nat):Option (List Nat) :=
  b[k1]? >>= fun x2 =>
  dU (fun k2 (st:(List Nat))=>qs a c k1 x2 k2 st) (c.length - 0) 0 l1 >>= fun l4 =>
  some l4
def sg (a:Nat) (b:List Nat) (c:List Nat):Option (List Nat) :=
  dU (fun k1 (st:(List Nat))=>qq a b c k1 st) (b.length - 0) 0 ([]:List Nat) >>= fun l2 =>
  kJ l2 >>= fun r5 =>
  some r5
def hU (a:Nat) (b:Nat) (c:List Nat) (d:Nat) (e:bH):Option ((List Nat) × Nat) :=
  oA b a >>= fun r1 =>
  sg b c ([r1,1]:List Nat) >>= fun r2 =>
  mN b e.X a >>= fun r3 =>
  dQ b d r3 >>= fun r4 =>
  some (r2,r4)
def bB (a:List Nat) (b:Int) (c:Nat) (d:bH) (k1:Nat) (l1:List Nat) (x1:Nat):Option ((List Nat) × Nat) :=
  a[k1]? >>= fun x4 =>
  bif ((k1:Nat):Int) != b then
    hU x4 c l1 x1 d >>= fun r2 =>
    some (r2.1,r2.2)
  else
    some (l1,x1)
def cg (a:List Nat) (b:Int) (c:Nat) (d:List Nat) (e:Nat) (f:bH):Option ((List Nat) × Nat) :=
  dU (fun k1 (st:(List Nat) × Nat)=>bB a b c f k1 st.1 st.2) (a.length - 0) 0 (d,e) >>= fun (l2,x3) =>
  some (l2,x3)
def nL (a:Nat) (b:Nat) (c:List Nat) (k1:Nat) (l2:List Nat):Option (List Nat) :=
  c[k1]? >>= fun x2 =>
  dQ a b x2 >>= fun r2 =>
  l2[k1]? >>= fun x3 =>
  some (l2.set k1 r2) >>= fun l4 =>
  some l4
def pq (a:Nat) (b:Nat) (c:List Nat):Option (List Nat) :=
  pG 8 ((c.length:Nat):Int) ((c.length:Nat):Int) (0:Nat) >>= fun l1 =>
  dU (fun k1 (st:(List Nat))=>nL a b c k1 st) (c.length - 0) 0 l1 >>= fun l3 =>
  kJ l3 >>= fun r3 =>
  some r3
def qo (a:Nat) (b:List Nat) (k1:Nat) (l1:List Nat):Option (List Nat) :=
  b[k1]? >>= fun x2 =>
  fo (⟨a,l1⟩:mQ) ((k1:Nat):Int) x2 >>= fun r2 =>
  some r2
def qp (a:Nat) (b:List Nat) (k2:Nat) (l3:List Nat):Option (List Nat) :=
  b[k2]? >>= fun x4 =>
  fo (⟨a,l3⟩:mQ) ((k2:Nat):Int) x4 >>= fun r4 =>
  some r4
def sf (a:Nat) (b:List Nat) (c:List Nat):Option (List Nat) :=
  dU (fun k1 (st:(List Nat))=>qo a b k1 st) (b.length - 0) 0 ([]:List Nat) >>= fun l2 =>
  dU (fun k2 (st:(List Nat))=>qp a c k2 st) (c.length - 0) 0 l2 >>= fun l4 =>
  kJ l4 >>= fun r5 =>
  some r5
def gL (a:List bH) (k1:Nat) (l1:List Nat):Option (List Nat) :=
  a[k1]? >>= fun x2 =>
  dk 8 l1 ([x2.X]:List Nat) >>= fun l3 =>
  some l3
def gM (a:Nat) (b:List bH) (l2:List Nat) (k2:Nat) (l4:List Nat):Option (List Nat) :=
  b[k2]? >>= fun x4 =>
  cg l2 ((k2:Nat):Int) a ([1]:List Nat) 1 x4 >>= fun r4 =>
  iA a x4.Y r4.2 >>= fun r5 =>
  pq a r5 r4.1 >>= fun r6 =>
  sf a l4 r6 >>= fun r7 =>
  some r7
def fY (a:Nat) (b:List bH):Option ((List Nat) × Int) :=
  dU (fun k1 (st:(List Nat))=>gL b k1 st) (b.length - 0) 0 ([]:List Nat) >>= fun l2 =>
  gy l2 >>= fun r2 =>
  bif !r2 then
    some (([]:List Nat),((1:Nat):Int))
  else
    dU (fun k2 (st:(List Nat))=>gM a b l2 k2 st) (b.length - 0) 0 ([]:List Nat) >>= fun l5 =>
    kJ l5 >>= fun r8 =>
    some (r8,((0:Nat):Int))
def mA (a:List Nat) (b:List (List Nat)) (c:Int) (k1:Nat) (l1:List bH):Option (List bH) :=
  a[k1]? >>= fun x3 =>
  b[k1]? >>= fun x4 =>
  iK x4 c >>= fun x5 =>
  dk 16 l1 ([(⟨x3,x5⟩:bH)]:List bH) >>= fun l3 =>
  some l3
def iw (a:Nat) (b:Int) (c:List Nat) (d:List (List Nat)) (e:Int):Option ((List Nat) × Int) :=
  fI b (1:Int) >>= fun x1 =>
  pa (max 0 (x1).toNat) >>= fun u1 =>
  dU (fun k1 (st:(List bH))=>mA c d e k1 st) ((max 0 (x1).toNat) - 0) 0 ([]:List bH) >>= fun l2 =>
  fY a l2 >>= fun r2 =>
  pG 8 x1 x1 (0:Nat) >>= fun l4 =>
  some (rb l4 r2.1,r2.2)
def gY (a:List (List Nat)) (k1:Nat):Option (Out Unit Bool) :=
  a[k1]? >>= fun x1 =>
  bif ((x1.length:Nat):Int) != ((a.length:Nat):Int) then
    some (.fin false)
  else
    some (.go ())
def hJ (a:List (List Nat)) (k2:Nat) (x2:List Nat) (k3:Nat):Option (Out Unit Bool) :=
  x2[k3]? >>= fun x3 =>
  a[k3]? >>= fun x4 =>
  x4[k2]? >>= fun x5 =>
  bif ((x3:Nat):Int) != ((x5:Nat):Int) then
    some (.fin false)
  else
    some (.go ())
def gZ (a:List (List Nat)) (k2:Nat):Option (Out Unit Bool) :=
  a[k2]? >>= fun x2 =>
  pa k2 >>= fun u1 =>
  nq (fun k3 (st:Unit)=>hJ a k2 x2 k3) (k2 - 0) 0 () >>= fun r3=>kB r3 (fun x=>some (.fin x)) fun _ =>
  some (.go ())
def gE (a:List (List Nat)):Option Bool :=
  nq (fun k1 (st:Unit)=>gY a k1) (a.length - 0) 0 () >>= fun r1=>kB r1 (fun x=>some x) fun _ =>
  nq (fun k2 (st:Unit)=>gZ a k2) (a.length - 0) 0 () >>= fun r2=>kB r2 (fun x=>some x) fun _ =>
  some (decide (((a.length:Nat):Int) > (0:Int)))
def ff (a:List Nat) (b:List Nat) (k1:Nat):Option (Out Unit Bool) :=
  a[k1]? >>= fun x1 =>
  b[k1]? >>= fun x2 =>
  bif ((x1:Nat):Int) != ((x2:Nat):Int) then
    some (.fin false)
  else
    some (.go ())
def dV (a:List Nat) (b:List Nat):Option Bool :=
  bif ((a.length:Nat):Int) != ((b.length:Nat):Int) then
    some false
  else
    nq (fun k1 (st:Unit)=>ff a b k1) (a.length - 0) 0 () >>= fun r1=>kB r1 (fun x=>some x) fun _ =>
    some true
def gW (r3:(List Nat) × Int) (k2:Nat) (l5:List (List Nat)):Option (List (List Nat)) :=
  l5[k2]? >>= fun x4 =>
  r3.1[k2]? >>= fun x5 =>
  dk 8 x4 ([x5]:List Nat) >>= fun l7 =>
  some (l5.set k2 l7) >>= fun l8 =>
  some l8
def gV (a:Nat) (b:Int) (c:List Nat) (d:List (List Nat)) (k1:Nat) (l2:List (List Nat)):Option (Out (List (List Nat)) ((List (List Nat)) × Int)) :=
  iw a b c d ((k1:Nat):Int) >>= fun r3 =>
  bif r3.2 != (0:Int) then
    some (.fin (([]:List (List Nat)),((6:Nat):Int)))
  else
    dU (fun k2 (st:(List (List Nat)))=>gW r3 k2 st) (l2.length - 0) 0 l2 >>= fun l6 =>
    some (.go l6)
def gX (a:Nat) (b:List Nat) (c:List (List Nat)) (l3:List (List Nat)) (k3:Nat):Option (Out Unit ((List (List Nat)) × Int)) :=
  b[k3]? >>= fun x6 =>
  ee a l3 x6 >>= fun r7 =>
  c[k3]? >>= fun x7 =>
  dV r7 x7 >>= fun r8 =>
  bif !r8 then
    some (.fin (([]:List (List Nat)),((6:Nat):Int)))
  else
    some (.go ())
def e5 (a:Nat) (b:Int) (c:List Nat) (d:List (List Nat)):Option ((List (List Nat)) × Int) :=
  lM b c d >>= fun r1 =>
  bif !r1 then
    some (([]:List (List Nat)),((1:Nat):Int))
  else
    fI b (1:Int) >>= fun x1 =>
    pG 24 x1 x1 ([]:List Nat) >>= fun l1 =>
    nq (fun k1 (st:(List (List Nat)))=>gV a b c d k1 st) (l1.length - 0) 0 l1 >>= fun r2=>kB r2 (fun x=>some x) fun l3 =>
    gE l3 >>= fun r5 =>
    bif !r5 then
      some (([]:List (List Nat)),((6:Nat):Int))
    else
      nq (fun k3 (st:Unit)=>gX a c d l3 k3) (c.length - 0) 0 () >>= fun r6=>kB r6 (fun x=>some x) fun _ =>
      some (l3,((0:Nat):Int))
def iU (a:aH) (b:Int):Option Int :=
  gA a b >>= fun r1 =>
  fI a.T (1:Int) >>= fun x1 =>
  mf a.T x1 >>= fun x2 =>
  ub x2 (2:Int) >>= fun x3 =>
  fI x1 x3 >>= fun x4 =>
  mf r1 x4 >>= fun x5 =>
  some x5
def kA (a:ap):Option Int :=
  some a.ah
def kC  : Option Bool :=
  mh >>= fun r1 =>
  mg r1 >>= fun r2 =>
  Cj r2 (fun r3 =>
    some false)
  (fun r4 =>
    cw r4 ((3:Nat):Int) >>= fun r5 =>
    (
      bif ((r5.1.length:Nat):Int) != (3:Int) then
        some true
      else
        r5.1[0]? >>= fun x2 =>
        some (((x2.length:Nat):Int) != (4:Int))
    ) >>= fun x1 =>
    bif x1 then
      some false
    else
      jY r4 >>= fun r6 =>
      r5.1[0]? >>= fun x3 =>
      e5 31 ((1:Nat):Int) ([1,2,3,4]:List Nat) x3 >>= fun r7 =>
      iU (⟨31,((4:Nat):Int),((1:Nat):Int)⟩:aH) ((0:Nat):Int) >>= fun r8 =>
      bif r8 == (0:Int) then
        iU (⟨31,((4:Nat):Int),((1:Nat):Int)⟩:aH) ((3:Nat):Int) >>= fun r9 =>
        bif r9 == (3:Int) then
          iU (⟨31,((4:Nat):Int),((1:Nat):Int)⟩:aH) ((4:Nat):Int) >>= fun r10 =>
          bif r10 == (6:Int) then
            fb (⟨r4.zw,r5.2.1,r5.2.2.1,r5.2.2.2⟩:ap) ((1:Nat):Int) >>= fun r11 =>
            r5.2.2.2[r11]? >>= fun x4 =>
            iu x4 >>= fun r12 =>
            bif r12 == (0:Int) then
              kA (⟨r4.zw,r5.2.1,r5.2.2.1,r5.2.2.2⟩:ap) >>= fun r13 =>
              bif r13 == (7:Int) then
                cw r4 ((0:Nat):Int) >>= fun r14 =>
                bif ((r14.1.length:Nat):Int) == (0:Int) then
                  kA (⟨r4.zw,r14.2.1,r14.2.2.1,r14.2.2.2⟩:ap) >>= fun r15 =>
                  bif r15 == (0:Int) then
                    bif ((r6.1.length:Nat):Int) == (0:Int) then
                      bif r6.2 == (0:Int) then
                        some (r7.2 == (0:Int))
                      else
                        some false
                    else
                      some false
                  else
                    some false
                else
                  some false
              else
                some false
            else
              some false
          else
            some false
        else
          some false
      else
        some false)
def lb  : Option (List Int) :=
  some ([((5:Nat):Int),((7:Nat):Int),((13:Nat):Int),((17:Nat):Int),((19:Nat):Int),((31:Nat):Int),((61:Nat):Int)]:List Int)
def fp (a:Nat) (r1:(List Int)) (k1:Nat):Option (Out Unit Int) :=
  r1[k1]? >>= fun x1 =>
  some (qP x1) >>= fun x2 =>
  yc 1 ((x2:Nat):Int) >>= fun x3 =>
  some (uT x3 1) >>= fun x4 =>
  bif ((a:Nat):Int) == ((x4:Nat):Int) then
    some (.fin x1)
  else
    some (.go ())
def jf (a:Nat):Option Int :=
  lb >>= fun r1 =>
  nq (fun k1 (st:Unit)=>fp a r1 k1) (r1.length - 0) 0 () >>= fun r2=>kB r2 (fun x=>some x) fun _ =>
  some ((0:Nat):Int)
def fZ (a:Nat):Option Bool :=
  jf a >>= fun r1 =>
  some (decide (r1 > (0:Int)))
def gz (a:aH):Option Bool :=
  fZ a.P >>= fun r1 =>
  bif r1 then
    bif decide (a.N ≥ (4:Int)) then
      bif decide (a.N≤(13:Int)) then
        some (qP a.N) >>= fun x1 =>
        bif decide (((x1:Nat):Int) < ((a.P:Nat):Int)) then
          bif decide (a.T ≥ (1:Int)) then
            bif decide (a.T < a.N) then
              mf (3:Int) a.T >>= fun x2 =>
              some (decide (x2 < a.N))
            else
              some false
          else
            some false
        else
          some false
      else
        some false
    else
      some false
  else
    some false
def fc (a:aH) (b:List Int) (k1:Nat):Option (Out Unit Bool) :=
  b[k1]? >>= fun x2 =>
  bif decide (x2 < (1:Int)) then
    some (.fin false)
  else
    bif decide (x2 > a.N) then
      some (.fin false)
    else
      bif decide (((k1:Nat):Int) > (0:Int)) then
        kj ((k1:Nat):Int) (1:Int) >>= fun x3 =>
        iK b x3 >>= fun x4 =>
        bif decide (x2≤x4) then
          some (.fin false)
        else
          some (.go ())
      else
        some (.go ())
def dS (a:aH) (b:List Int):Option Bool :=
  (
    gz a >>= fun r1 =>
    bif !r1 then
      some true
    else
      some (decide (((b.length:Nat):Int) > a.T))
  ) >>= fun x1 =>
  bif x1 then
    some false
  else
    nq (fun k1 (st:Unit)=>fc a b k1) (b.length - 0) 0 () >>= fun r2=>kB r2 (fun x=>some x) fun _ =>
    some true
def f9 (a:aH) (b:aM):Option Bool :=
  bif decide (b.Round ≥ (0:Int)) then
    bif decide (b.At ≥ (0:Int)) then
      bif decide (b.bi ≥ (0:Int)) then
        bif decide (b.From ≥ (1:Int)) then
          bif decide (b.From≤a.N) then
            bif decide (b.To ≥ (0:Int)) then
              bif decide (b.To≤a.N) then
                bif decide (b.Kind ≥ (1:Int)) then
                  bif decide (b.Kind≤(4:Int)) then
                    bif decide (b.Of ≥ (0:Int)) then
                      bif decide (b.Of≤a.N) then
                        bif b.Kind != (3:Int) then
                          some true
                        else
                          some (decide (b.Of ≥ (1:Int)))
                      else
                        some false
                    else
                      some false
                  else
                    some false
                else
                  some false
              else
                some false
            else
              some false
          else
            some false
        else
          some false
      else
        some false
    else
      some false
  else
    some false
def jg (a:Nat) (b:List Nat) (k1:Nat):Option (Out Unit Bool) :=
  b[k1]? >>= fun x1 =>
  bif decide (((x1:Nat):Int) ≥ ((a:Nat):Int)) then
    some (.fin false)
  else
    some (.go ())
def iS (a:Nat) (b:List Nat):Option Bool :=
  nq (fun k1 (st:Unit)=>jg a b k1) (b.length - 0) 0 () >>= fun r1=>kB r1 (fun x=>some x) fun _ =>
  some true
def fv (a:ab) (k1:Nat):Option (Out Unit Bool) :=
  a.aa[k1]? >>= fun x2 =>
  f9 a.S x2 >>= fun r4 =>
  bif !r4 then
    some (.fin false)
  else
    some (.go ())
def fw (a:ab) (k2:Nat):Option (Out Unit Bool) :=
  a.ax[k2]? >>= fun x3 =>
  iS a.S.P x3 >>= fun r6 =>
  bif !r6 then
    some (.fin false)
  else
    some (.go ())
def cL (a:ab):Option Bool :=
  (
    gz a.S >>= fun r1 =>
    bif !r1 then
      some true
    else
      dS a.S a.af >>= fun r2 =>
      bif !r2 then
        some true
      else
        some (((a.ax.length:Nat):Int) != a.S.N)
  ) >>= fun x1 =>
  bif x1 then
    some false
  else
    nq (fun k1 (st:Unit)=>fv a k1) (a.aa.length - 0) 0 () >>= fun r3=>kB r3 (fun x=>some x) fun _ =>
    nq (fun k2 (st:Unit)=>fw a k2) (a.ax.length - 0) 0 () >>= fun r5=>kB r5 (fun x=>some x) fun _ =>
    some true
def jI (a:ab) (b:Int) (k1:Nat):Option (Out Unit Bool) :=
  a.ax[k1]? >>= fun x2 =>
  bif decide (((x2.length:Nat):Int) > b) then
    some (.fin false)
  else
    some (.go ())
def jr (a:ab) (b:Int) (c:Int):Option Bool :=
  (
    bif decide (((a.aa.length:Nat):Int) > b) then
      some true
    else
      bif decide (((a.ax.length:Nat):Int) > (13:Int)) then
        some true
      else
        some (decide (((a.af.length:Nat):Int) > (13:Int)))
  ) >>= fun x1 =>
  bif x1 then
    some false
  else
    nq (fun k1 (st:Unit)=>jI a c k1) (a.ax.length - 0) 0 () >>= fun r1=>kB r1 (fun x=>some x) fun _ =>
    cL a >>= fun r2 =>
    some r2
def iE (a:aH) (b:Int) (x1:Int):Option (Out Int Int) :=
  kj a.N a.T >>= fun x4 =>
  mf x1 x4 >>= fun x5 =>
  bif decide (x5 < b) then
    fI x1 (1:Int) >>= fun x6 =>
    some (.go x6)
  else
    some (.fin x1)
def gP (a:aH) (b:Int):Option Int :=
  sP (fun (st:Int)=>iE a b st) big ((0:Nat):Int) >>= fun x3 =>
  some x3
def lc (a:Int):Option Int :=
  fI a (1:Int) >>= fun x1 =>
  mf a x1 >>= fun x2 =>
  ub x2 (2:Int) >>= fun x3 =>
  some x3
def gQ (a:aH) (b:Int):Option Int :=
  gP a b >>= fun r1 =>
  fI a.T (1:Int) >>= fun x1 =>
  lc a.T >>= fun r2 =>
  fI x1 r2 >>= fun x2 =>
  mf r1 x2 >>= fun x3 =>
  some x3
def jH (a:ab) (b:Int) (k1:Nat):Option (Out Unit Bool) :=
  a.ax[k1]? >>= fun x2 =>
  gQ a.S b >>= fun r3 =>
  bif decide (((x2.length:Nat):Int) < r3) then
    some (.fin false)
  else
    some (.go ())
def jq (a:ab) (b:Int) (c:Int):Option Bool :=
  (
    jr a ((8:Nat):Int) ((100:Nat):Int) >>= fun r1 =>
    bif !r1 then
      some true
    else
      bif decide (b < (0:Int)) then
        some true
      else
        bif decide (b > c) then
          some true
        else
          some (decide (a.S.N > (7:Int)))
  ) >>= fun x1 =>
  bif x1 then
    some false
  else
    nq (fun k1 (st:Unit)=>jH a b k1) (a.ax.length - 0) 0 () >>= fun r2=>kB r2 (fun x=>some x) fun _ =>
    some true
def iT (a:ab) (b:Int) (k1:Nat):Option (Out Unit Bool) :=
  a.af[k1]? >>= fun x1 =>
  bif x1 == b then
    some (.fin false)
  else
    some (.go ())
def ir (a:ab) (b:Int):Option Bool :=
  nq (fun k1 (st:Unit)=>iT a b k1) (a.af.length - 0) 0 () >>= fun r1=>kB r1 (fun x=>some x) fun _ =>
  some true
def en (a:ab) (b:List (List Nat)) (l1:List Nat) (l2:List (List Nat)) (x1:Int):Option (Out ((List Nat) × (List (List Nat)) × Int) ((List Nat) × (List (List Nat)))) :=
  (
    bif decide (x1 < a.S.N) then
      some (decide (x1 < ((b.length:Nat):Int)))
    else
      some false
  ) >>= fun x2 =>
  bif x2 then
    fI x1 (1:Int) >>= fun x3 =>
    ir a x3 >>= fun r2 =>
    bif r2 then
      some (qP x3) >>= fun x4 =>
      dk 8 l1 ([x4]:List Nat) >>= fun l7 =>
      iK b x1 >>= fun x5 =>
      dk 24 l2 ([x5]:List (List Nat)) >>= fun l8 =>
      some (.go (l7,l8,x3))
    else
      some (.go (l1,l2,x3))
  else
    some (.fin (l1,l2))
def j7 (a:ab) (b:List (List Nat)):Option ((List Nat) × (List (List Nat))) :=
  sP (fun (st:(List Nat) × (List (List Nat)) × Int)=>en a b st.1 st.2.1 st.2.2) big (([]:List Nat),([]:List (List Nat)),((0:Nat):Int)) >>= fun (l5,l6) =>
  some (l5,l6)
def io (a:ab) (b:List (List Nat)):Option (Nat × Bool) :=
  j7 a b >>= fun r1 =>
  e5 a.S.P a.S.T r1.1 r1.2 >>= fun r2 =>
  bif r2.2 != (0:Int) then
    some (0,false)
  else
    bif ((r2.1.length:Nat):Int) == (0:Int) then
      some (0,false)
    else
      r2.1[0]? >>= fun x1 =>
      bif ((x1.length:Nat):Int) == (0:Int) then
        some (0,false)
      else
        x1[0]? >>= fun x2 =>
        some (x2,true)
def fT (a:ab) (r6:(List (List (List Nat))) × Int × (List (List al)) × (List ay)) (k1:Nat):Option (Out Unit Bool) :=
  r6.1[k1]? >>= fun x1 =>
  io a x1 >>= fun r8 =>
  bif !r8.2 then
    some (.fin false)
  else
    some (.go ())
def dX (a:ab) (b:Int):Option Bool :=
  kC >>= fun r1 =>
  bif !r1 then
    some false
  else
    jq a b ((7:Nat):Int) >>= fun r2 =>
    bif !r2 then
      some true
    else
      mg a >>= fun r3 =>
      Cj r3 (fun r4 =>
        some false)
      (fun r5 =>
        cw r5 b >>= fun r6 =>
        nq (fun k1 (st:Unit)=>fT a r6 k1) (r6.1.length - 0) 0 () >>= fun r7=>kB r7 (fun x=>some x) fun _ =>
        some (((r6.1.length:Nat):Int) == b))
def q7 (x6:Int) (k1:Nat) (l2:List (List Nat)):Option (List (List Nat)) :=
  pG 8 x6 x6 (0:Nat) >>= fun l4 =>
  l2[k1]? >>= fun x8 =>
  some (l2.set k1 l4) >>= fun l5 =>
  some l5
def q9 (a:List Nat) (x1:Int) (k2:Nat) (l12:List (List Nat)) (x19:Int) (x20:Int):Option (Out ((List (List Nat)) × Int × Int) ((List (List Nat)) × Int)) :=
  (
    bif decide (x20≤x1) then
      some (decide (((k2:Nat):Int) > (0:Int)))
    else
      some false
  ) >>= fun x23 =>
  bif x23 then
    l12[k2]? >>= fun x24 =>
    iK l12 x20 >>= fun x25 =>
    iK a x19 >>= fun x26 =>
    iK x24 x20 >>= fun x27 =>
    some (x24.set x20.toNat x26) >>= fun l15 =>
    some (l12.set k2 l15) >>= fun l16 =>
    x25[k2]? >>= fun x28 =>
    iK l16 x20 >>= fun x29 =>
    x29[k2]? >>= fun x30 =>
    some (x29.set k2 x26) >>= fun l17 =>
    some (l16.set x20.toNat l17) >>= fun l18 =>
    fI x19 (1:Int) >>= fun x31 =>
    fI x20 (1:Int) >>= fun x32 =>
    some (.go (l18,x31,x32))
  else
    some (.fin (l12,x19))
def q8 (a:List Nat) (b:List Nat) (x1:Int) (k2:Nat) (l6:List (List Nat)) (x9:Int):Option ((List (List Nat)) × Int) :=
  l6[0]? >>= fun x12 =>
  l6[k2]? >>= fun x13 =>
  a[k2]? >>= fun x14 =>
  x12[k2]? >>= fun x15 =>
  some (x12.set k2 x14) >>= fun l8 =>
  some (l6.set 0 l8) >>= fun l9 =>
  x13[0]? >>= fun x16 =>
  l9[k2]? >>= fun x17 =>
  x17[0]? >>= fun x18 =>
  some (x17.set 0 x14) >>= fun l10 =>
  some (l9.set k2 l10) >>= fun l11 =>
  sP (fun (st:(List (List Nat)) × Int × Int)=>q9 b x1 k2 st.1 st.2.1 st.2.2) big (l11,x9,((k2:Nat):Int)) >>= fun (l14,x22) =>
  some (l14,x22)
def iD (a:List Nat) (b:List Nat):Option ((List (List Nat)) × Int) :=
  kj ((a.length:Nat):Int) (1:Int) >>= fun x1 =>
  (
    bif decide (x1 < (0:Int)) then
      some true
    else
      fI x1 (1:Int) >>= fun x3 =>
      mf x1 x3 >>= fun x4 =>
      ub x4 (2:Int) >>= fun x5 =>
      some (((b.length:Nat):Int) != x5)
  ) >>= fun x2 =>
  bif x2 then
    some (([]:List (List Nat)),((1:Nat):Int))
  else
    fI x1 (1:Int) >>= fun x6 =>
    pG 24 x6 x6 ([]:List Nat) >>= fun l1 =>
    pa (max 0 (x1+1).toNat) >>= fun u1 =>
    dU (fun k1 (st:(List (List Nat)))=>q7 x6 k1 st) ((max 0 (x1+1).toNat) - 0) 0 l1 >>= fun l3 =>
    dU (fun k2 (st:(List (List Nat)) × Int)=>q8 a b x1 k2 st.1 st.2) ((max 0 (x1+1).toNat) - 0) 0 (l3,((0:Nat):Int)) >>= fun (l7,x11) =>
    some (l7,((0:Nat):Int))
def ip (a:Nat) (x1:Nat) (x2:Nat) (x3:Nat):Option (Out (Nat × Nat × Nat) Nat) :=
  bif decide (((x2:Nat):Int) > (0:Int)) then
    uR x2 2 >>= fun x6 =>
    bif ((x6:Nat):Int) == (1:Int) then
      some (lS x3 x1) >>= fun x7 =>
      uR x7 a >>= fun x8 =>
      some (lS x1 x1) >>= fun x9 =>
      uR x9 a >>= fun x10 =>
      C5 x2 2 >>= fun x11 =>
      some (.go (x10,x11,x8))
    else
      some (lS x1 x1) >>= fun x12 =>
      uR x12 a >>= fun x13 =>
      C5 x2 2 >>= fun x14 =>
      some (.go (x13,x14,x3))
  else
    some (.fin x3)
def lH (a:Nat) (b:Nat) (c:Nat):Option Nat :=
  sP (fun (st:Nat × Nat × Nat)=>ip a st.1 st.2.1 st.2.2) big (b,c,0) >>= fun x5 =>
  some x5
def lG (a:Nat) (b:Nat) (c:Nat):Option Nat :=
  some (lS b c) >>= fun x1 =>
  uR x1 a >>= fun x2 =>
  some x2
def gG (a:Nat) (b:List Nat) (c:Nat) (x2:Nat) (x3:Int):Option (Out (Nat × Int) Nat) :=
  bif decide (x3 ≥ (0:Int)) then
    lH a x2 c >>= fun r2 =>
    iK b x3 >>= fun x6 =>
    lG a r2 x6 >>= fun r3 =>
    kj x3 (1:Int) >>= fun x7 =>
    some (.go (r3,x7))
  else
    some (.fin x2)
def kD (a:Nat) (b:List Nat) (c:Nat):Option Nat :=
  kj ((b.length:Nat):Int) (1:Int) >>= fun x1 =>
  sP (fun (st:Nat × Int)=>gG a b c st.1 st.2) big (0,x1) >>= fun x5 =>
  some x5
def j8 (a:List (List Nat)) (k1:Nat) (k2:Nat) (l3:List Nat):Option (List Nat) :=
  a[k2]? >>= fun x3 =>
  x3[k1]? >>= fun x4 =>
  dk 8 l3 ([x4]:List Nat) >>= fun l5 =>
  some l5
def iq (a:Nat) (b:List (List Nat)) (c:Nat) (k1:Nat) (l1:List Nat):Option (List Nat) :=
  dU (fun k2 (st:(List Nat))=>j8 b k1 k2 st) (b.length - 0) 0 ([]:List Nat) >>= fun l4 =>
  kD a l4 c >>= fun r3 =>
  dk 8 l1 ([r3]:List Nat) >>= fun l6 =>
  some l6
def jV (a:Nat) (b:List (List Nat)) (c:Nat):Option (List Nat) :=
  dU (fun k1 (st:(List Nat))=>iq a b c k1 st) (b.length - 0) 0 ([]:List Nat) >>= fun l2 =>
  some l2
end Pu
