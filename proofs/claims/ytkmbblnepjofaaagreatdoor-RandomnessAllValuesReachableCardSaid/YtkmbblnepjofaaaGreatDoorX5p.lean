/- Plain functions: what the Go functions compute, over lists and numbers, in Option (none: a run that is not followed). No Go in it. Printed by a program of this claim. -/
import Derived.Test.YtkmbblnepjofaaaGreatDoorWd
set_option linter.unusedVariables false
namespace Pu
open Gw
structure aL where
  P:Nat
  N:Int
  T:Int
structure aS where
  Round:Int
  From:Int
  To:Int
  At:Int
  Kind:Int
  K:Nat
  Of:Int
  bm:Int
structure ab where
  S:aL
  af:List Int
  aa:List aS
  ax:List (List Nat)
structure ao where
  Round:Int
  From:Int
  J6:List Nat
structure aA where
  gY:List Nat
  zat:Int
structure au where
  zw:ab
  ah:Int
  av:List (List ao)
  ap:List aA
structure aJ where
  S:List (List (List (List Nat)))
  Rows:List (List (List (List Nat)))
  aE:List (List (List Nat))
structure ai where
  zn:au
  zs:aL
  zq:List (List (List Nat))
  zd:aJ
structure aw where
  zn:au
  zp:Nat
  zd:aJ
  aR:List (List Bool)
  bT:List (List Bool)
  c8:List (List (List (List Nat)))
structure bV where
  e0:Int
  e1:Int
structure m7 where
  zl:List Nat
structure bv where
  Rows:List (List (List (List Nat)))
  ij:List Bool
structure bP where
  X:Nat
  Y:Nat
structure oq where
  zp:Nat
  zf:List Nat
structure ll where
  zp:Nat
  zm:List (List Nat)
  zpivot:List Int
  zdet:Nat
def nE  : Option ab :=
  some (⟨(⟨31,((4:Nat):Int),((1:Nat):Int)⟩:aL),([]:List Int),([]:List aS),([([1,2,3]:List Nat),([4,5,6]:List Nat),([7,8,9]:List Nat),([10,11,12]:List Nat)]:List (List Nat))⟩:ab)
def tf (a:Nat) (k1:Nat):Option (Out Unit Int) :=
  ([5,7,13,17,19,31,61]:List Int)[k1]? >>= fun x1 =>
  zT 1 x1 >>= fun x2 =>
  some (wj x2 1) >>= fun x3 =>
  bif ((a:Nat):Int) == ((x3:Nat):Int) then
    some (.fin x1)
  else
    some (.go ())
def ry (a:Nat):Option Int :=
  oT 7 >>= fun u1 =>
  pi (fun k1 (st:Unit)=>tf a k1) (7 - 0) 0 () >>= fun r1=>kZ r1 (fun x=>some x) fun _ =>
  some ((0:Nat):Int)
def nR (a:Nat):Option Bool :=
  ry a >>= fun r1 =>
  some (r1 != (0:Int))
def oe (a:aL):Option Bool :=
  nR a.P >>= fun r1 =>
  bif r1 then
    bif decide (a.N ≥ (4:Int)) then
      bif decide (a.N≤(13:Int)) then
        some (sj a.N) >>= fun x1 =>
        bif decide (((x1:Nat):Int) < ((a.P:Nat):Int)) then
          bif decide (a.T ≥ (1:Int)) then
            bif decide (a.T < a.N) then
              nC (3:Int) a.T >>= fun x2 =>
              some (decide (x2 < a.N))
            else
              some false
          else
            some false
        else
          some false
      else
        some false
    else
      some false
  else
    some false
def iG (a:aL) (b:List Int) (k1:Nat):Option (Out Unit Bool) :=
  b[k1]? >>= fun x2 =>
  bif decide (x2 < (1:Int)) then
    some (.fin false)
  else
    bif decide (x2 > a.N) then
      some (.fin false)
    else
      bif decide (((k1:Nat):Int) > (0:Int)) then
        lg ((k1:Nat):Int) (1:Int) >>= fun x3 =>
        ie b x3 >>= fun x4 =>
        bif decide (x4 ≥ x2) then
          some (.fin false)
        else
          some (.go ())
      else
        some (.go ())
def hJ (a:aL) (b:List Int):Option Bool :=
  (
    oe a >>= fun r1 =>
    bif !r1 then
      some true
    else
      some (decide (((b.length:Nat):Int) > a.T))
  ) >>= fun x1 =>
  bif x1 then
    some false
  else
    pi (fun k1 (st:Unit)=>iG a b k1) (b.length - 0) 0 () >>= fun r2=>kZ r2 (fun x=>some x) fun _ =>
    some true
def qG (a:aL) (b:aS):Option Bool :=
  (
    bif b.Kind == (3:Int) then
      some ((1:Nat):Int)
    else
      some ((0:Nat):Int)
  ) >>= fun x1 =>
  bif decide (b.Round ≥ (0:Int)) then
    bif decide (b.At ≥ (0:Int)) then
      bif decide (b.bm ≥ (0:Int)) then
        bif decide (b.From ≥ (1:Int)) then
          bif decide (b.From≤a.N) then
            bif decide (b.To ≥ (0:Int)) then
              bif decide (b.To≤a.N) then
                bif decide (b.Kind ≥ (1:Int)) then
                  bif decide (b.Kind≤(4:Int)) then
                    bif decide (b.Of ≥ x1) then
                      some (decide (b.Of≤a.N))
                    else
                      some false
                  else
                    some false
                else
                  some false
              else
                some false
            else
              some false
          else
            some false
        else
          some false
      else
        some false
    else
      some false
  else
    some false
def jl (a:aS) (b:ab):Option Bool :=
  qG b.S a >>= fun r1 =>
  some (!r1)
def bF (a:List aS) (b:ab) (k1:Nat):Option (Out Unit Int) :=
  a[k1]? >>= fun x1 =>
  jl x1 b >>= fun r2 =>
  bif r2 then
    some (.fin ((k1:Nat):Int))
  else
    some (.go ())
def bL (a:List aS) (b:ab):Option Int :=
  pi (fun k1 (st:Unit)=>bF a b k1) (a.length - 0) 0 () >>= fun r1=>kZ r1 (fun x=>some x) fun _ =>
  some (-1)
def bf (a:List aS) (b:ab):Option Bool :=
  bL a b >>= fun r1 =>
  some (decide (r1 ≥ (0:Int)))
def iH (a:Nat) (b:ab):Option Bool :=
  some (decide (((a:Nat):Int) ≥ ((b.S.P:Nat):Int)))
def cb (a:List Nat) (b:ab) (k1:Nat):Option (Out Unit Int) :=
  a[k1]? >>= fun x1 =>
  iH x1 b >>= fun r2 =>
  bif r2 then
    some (.fin ((k1:Nat):Int))
  else
    some (.go ())
def cm (a:List Nat) (b:ab):Option Int :=
  pi (fun k1 (st:Unit)=>cb a b k1) (a.length - 0) 0 () >>= fun r1=>kZ r1 (fun x=>some x) fun _ =>
  some (-1)
def bA (a:List Nat) (b:ab):Option Bool :=
  cm a b >>= fun r1 =>
  some (decide (r1 ≥ (0:Int)))
def jm (a:List Nat) (b:ab):Option Bool :=
  bA a b >>= fun r1 =>
  some r1
def ca (a:List (List Nat)) (b:ab) (k1:Nat):Option (Out Unit Int) :=
  a[k1]? >>= fun x1 =>
  jm x1 b >>= fun r2 =>
  bif r2 then
    some (.fin ((k1:Nat):Int))
  else
    some (.go ())
def ck (a:List (List Nat)) (b:ab):Option Int :=
  pi (fun k1 (st:Unit)=>ca a b k1) (a.length - 0) 0 () >>= fun r1=>kZ r1 (fun x=>some x) fun _ =>
  some (-1)
def bz (a:List (List Nat)) (b:ab):Option Bool :=
  ck a b >>= fun r1 =>
  some (decide (r1 ≥ (0:Int)))
def kf (a:ab):Option Bool :=
  hJ a.S a.af >>= fun r1 =>
  bif !r1 then
    some false
  else
    bif ((a.ax.length:Nat):Int) != a.S.N then
      some false
    else
      bf a.aa a >>= fun r2 =>
      bif r2 then
        some false
      else
        bz a.ax a >>= fun r3 =>
        some (!r3)
def vP (a:List Nat):Option aA :=
  some (⟨a,((0:Nat):Int)⟩:aA)
def rC (a:ab) (k1:Nat) (l2:List aA):Option (List aA) :=
  a.ax[k1]? >>= fun x2 =>
  vP x2 >>= fun r3 =>
  dx 8 l2 ([r3]:List aA) >>= fun l4 =>
  some l4
def nD (a:ab):Option (Unit ⊕ au) :=
  kf a >>= fun r1 =>
  bif !r1 then
    some (.inl ())
  else
    qA 24 a.S.N a.S.N ([]:List ao) >>= fun l1 =>
    dO (fun k1 (st:(List aA))=>rC a k1 st) (a.ax.length - 0) 0 ([]:List aA) >>= fun l3 =>
    some (.inr (⟨a,((0:Nat):Int),l1,l3⟩:au))
def bQ (a:au):Option ab :=
  some a.zw
def gW (a:aL) (b:Int):Option Int :=
  fp b a.N >>= fun x1 =>
  lg x1 a.T >>= fun x2 =>
  lg x2 (1:Int) >>= fun x3 =>
  lg a.N a.T >>= fun x4 =>
  vo x3 x4 >>= fun x5 =>
  some x5
def fH (a:au) (b:Int):Option Nat :=
  lg b (1:Int) >>= fun x1 =>
  ie a.ap x1 >>= fun x2 =>
  some x1.toNat
def iW (a:aA):Option Int :=
  lg ((a.gY.length:Nat):Int) a.zat >>= fun x1 =>
  some x1
def kj (a:aA) (b:Int):Option ((List Nat) × Int × Int) :=
  (
    bif decide (b < (0:Int)) then
      some true
    else
      iW a >>= fun r1 =>
      some (decide (b > r1))
  ) >>= fun x1 =>
  bif x1 then
    some (([]:List Nat),((10:Nat):Int),a.zat)
  else
    fp a.zat b >>= fun x2 =>
    p7 a.gY a.zat x2 >>= fun l1 =>
    some (l1,((0:Nat):Int),x2)
def tU (a:List Nat) (k1:Nat) (l2:List (List Nat)):Option (List (List Nat)) :=
  qA 8 ((a.length:Nat):Int) ((a.length:Nat):Int) (0:Nat) >>= fun l4 =>
  l2[k1]? >>= fun x6 =>
  some (l2.set k1 l4) >>= fun l5 =>
  some l5
def tV (a:List Nat) (k2:Nat) (l6:List (List Nat)):Option (List (List Nat)) :=
  a[k2]? >>= fun x8 =>
  l6[0]? >>= fun x9 =>
  l6[k2]? >>= fun x10 =>
  x9[k2]? >>= fun x11 =>
  some (x9.set k2 x8) >>= fun l8 =>
  some (l6.set 0 l8) >>= fun l9 =>
  x10[0]? >>= fun x12 =>
  l9[k2]? >>= fun x13 =>
  x13[0]? >>= fun x14 =>
  some (x13.set 0 x8) >>= fun l10 =>
  some (l9.set k2 l10) >>= fun l11 =>
  some l11
def mT (a:List Nat) (k3:Nat) (l16:List Nat) (l17:List (List Nat)) (x16:Int):Option (Out ((List Nat) × (List (List Nat)) × Int) ((List Nat) × (List (List Nat)))) :=
  bif decide (x16 < ((a.length:Nat):Int)) then
    l17[k3]? >>= fun x17 =>
    ie l17 x16 >>= fun x18 =>
    l16[0]? >>= fun x19 =>
    ie x17 x16 >>= fun x20 =>
    some (x17.set x16.toNat x19) >>= fun l22 =>
    some (l17.set k3 l22) >>= fun l23 =>
    x18[k3]? >>= fun x21 =>
    ie l23 x16 >>= fun x22 =>
    x22[k3]? >>= fun x23 =>
    some (x22.set k3 x19) >>= fun l24 =>
    some (l23.set x16.toNat l24) >>= fun l25 =>
    p7 l16 (1:Int) ((l16.length:Nat):Int) >>= fun l26 =>
    fp x16 (1:Int) >>= fun x24 =>
    some (.go (l26,l25,x24))
  else
    some (.fin (l16,l17))
def mS (a:List Nat) (k3:Nat) (l12:List Nat) (l13:List (List Nat)):Option ((List Nat) × (List (List Nat))) :=
  sS (fun (st:(List Nat) × (List (List Nat)) × Int)=>mT a k3 st.1 st.2.1 st.2.2) big (l12,l13,((k3:Nat):Int)) >>= fun (l20,l21) =>
  some (l20,l21)
def kS (a:List Nat) (b:List Nat):Option ((List (List Nat)) × Int) :=
  (
    bif ((a.length:Nat):Int) == (0:Int) then
      some true
    else
      lg ((a.length:Nat):Int) (1:Int) >>= fun x2 =>
      nC ((a.length:Nat):Int) x2 >>= fun x3 =>
      vo x3 (2:Int) >>= fun x4 =>
      some (((b.length:Nat):Int) != x4)
  ) >>= fun x1 =>
  bif x1 then
    some (([]:List (List Nat)),((1:Nat):Int))
  else
    qA 24 ((a.length:Nat):Int) ((a.length:Nat):Int) ([]:List Nat) >>= fun l1 =>
    dO (fun k1 (st:(List (List Nat)))=>tU a k1 st) (l1.length - 0) 0 l1 >>= fun l3 =>
    dO (fun k2 (st:(List (List Nat)))=>tV a k2 st) (a.length - 0) 0 l3 >>= fun l7 =>
    oT (max 1 (((a.length:Nat):Int)).toNat) >>= fun u1 =>
    dO (fun k3 (st:(List Nat) × (List (List Nat)))=>mS a k3 st.1 st.2) ((max 1 (((a.length:Nat):Int)).toNat) - 1) 1 (b,l7) >>= fun (l14,l15) =>
    some (l15,((0:Nat):Int))
def dV (a:Int) (b:ai) (x1:List (List Nat)) (k1:Nat) (l1:List aA) (l2:List (List (List (List Nat)))):Option ((List aA) × (List (List (List (List Nat))))) :=
  x1[k1]? >>= fun x3 =>
  fp a (1:Int) >>= fun x4 =>
  fH (⟨b.zn.zw,b.zn.ah,b.zn.av,l1⟩:au) x4 >>= fun r2 =>
  fp b.zs.T (1:Int) >>= fun x5 =>
  nC b.zs.T x5 >>= fun x6 =>
  vo x6 (2:Int) >>= fun x7 =>
  l1[r2]? >>= fun x8 =>
  kj x8 x7 >>= fun r3 =>
  some (l1.set r2 (⟨x8.gY,r3.2.2⟩:aA)) >>= fun l5 =>
  kS x3 r3.1 >>= fun r4 =>
  ie l2 a >>= fun x9 =>
  dx 24 x9 ([r4.1]:List (List (List Nat))) >>= fun l6 =>
  some (l2.set a.toNat l6) >>= fun l7 =>
  some (l5,l7)
def gK (a:Int) (b:ai):Option ((List aA) × aJ) :=
  ie b.zq a >>= fun x1 =>
  dO (fun k1 (st:(List aA) × (List (List (List (List Nat)))))=>dV a b x1 k1 st.1 st.2) (x1.length - 0) 0 (b.zn.ap,b.zd.S) >>= fun (l3,l4) =>
  some (l3,(⟨l4,b.zd.Rows,b.zd.aE⟩:aJ))
def bJ (a:ai) (k1:Nat) (l1:List aA) (l2:List (List (List (List Nat)))) (l3:List (List (List (List Nat)))) (l4:List (List (List Nat))):Option ((List aA) × (List (List (List (List Nat)))) × (List (List (List (List Nat)))) × (List (List (List Nat)))) :=
  gK ((k1:Nat):Int) (⟨(⟨a.zn.zw,a.zn.ah,a.zn.av,l1⟩:au),a.zs,a.zq,(⟨l2,l3,l4⟩:aJ)⟩:ai) >>= fun r2 =>
  some (r2.1,r2.2.S,r2.2.Rows,r2.2.aE)
def de (a:ai):Option ((List aA) × aJ) :=
  oT (max 0 (a.zs.N).toNat) >>= fun u1 =>
  dO (fun k1 (st:(List aA) × (List (List (List (List Nat)))) × (List (List (List (List Nat)))) × (List (List (List Nat))))=>bJ a k1 st.1 st.2.1 st.2.2.1 st.2.2.2) ((max 0 (a.zs.N).toNat) - 0) 0 (a.zn.ap,a.zd.S,a.zd.Rows,a.zd.aE) >>= fun (l5,l6,l7,l8) =>
  some (l5,(⟨l6,l7,l8⟩:aJ))
def ip (a:ai):Option ((List aA) × aJ) :=
  de a >>= fun r1 =>
  some (r1.1,r1.2)
def lq (a:Nat) (b:Nat):Option (Nat × Nat) :=
  some (uE a 4294967295) >>= fun x1 =>
  sV a (32:Int) >>= fun x2 =>
  some (uE b 4294967295) >>= fun x3 =>
  sV b (32:Int) >>= fun x4 =>
  some (uP x1 x3) >>= fun x5 =>
  some (uP x2 x3) >>= fun x6 =>
  sV x5 (32:Int) >>= fun x7 =>
  some (ng x6 x7) >>= fun x8 =>
  some (uE x8 4294967295) >>= fun x9 =>
  sV x8 (32:Int) >>= fun x10 =>
  some (uP x1 x4) >>= fun x11 =>
  some (ng x9 x11) >>= fun x12 =>
  some (uP x2 x4) >>= fun x13 =>
  some (ng x13 x10) >>= fun x14 =>
  sV x12 (32:Int) >>= fun x15 =>
  some (ng x14 x15) >>= fun x16 =>
  some (uP a b) >>= fun x17 =>
  some (x16,x17)
def lp (a:Nat):Option Int :=
  bif a == 31 then
    some ((5:Nat):Int)
  else
    bif a == 127 then
      some ((7:Nat):Int)
    else
      bif a == 8191 then
        some ((13:Nat):Int)
      else
        bif a == 131071 then
          some ((17:Nat):Int)
        else
          bif a == 524287 then
            some ((19:Nat):Int)
          else
            bif a == 2147483647 then
              some ((31:Nat):Int)
            else
              bif a == 2305843009213693951 then
                some ((61:Nat):Int)
              else
                bif a == 1 then
                  some ((1:Nat):Int)
                else
                  bif a == 2 then
                    some ((2:Nat):Int)
                  else
                    bif a == 3 then
                      some ((2:Nat):Int)
                    else
                      bif a == 4 then
                        some ((3:Nat):Int)
                      else
                        bif a == 5 then
                          some ((3:Nat):Int)
                        else
                          bif a == 6 then
                            some ((3:Nat):Int)
                          else
                            bif a == 7 then
                              some ((3:Nat):Int)
                            else
                              none
def rz (a:Nat):Option Nat :=
  lp a >>= fun r1 =>
  some (sj r1) >>= fun x1 =>
  some x1
def gM (a:Nat) (r1:Nat) (x1:Nat) (x2:Nat):Option (Out (Nat × Nat) Nat) :=
  (
    bif ((x1:Nat):Int) != (0:Int) then
      some true
    else
      some (decide (((x2:Nat):Int) > ((a:Nat):Int)))
  ) >>= fun x5 =>
  bif x5 then
    some (uE x2 a) >>= fun x6 =>
    sV x2 ((r1:Nat):Int) >>= fun x7 =>
    some (wj 64 r1) >>= fun x8 =>
    zT x1 ((x8:Nat):Int) >>= fun x9 =>
    some (Kx x7 x9) >>= fun x10 =>
    sV x1 ((r1:Nat):Int) >>= fun x11 =>
    some (ng x10 x6) >>= fun x12 =>
    some (EW x10 x6) >>= fun x13 =>
    some (ng x11 x13) >>= fun x14 =>
    some (.go (x14,x12))
  else
    some (.fin x2)
def mY (a:Nat) (b:Nat) (c:Nat):Option Nat :=
  rz a >>= fun r1 =>
  sS (fun (st:Nat × Nat)=>gM a r1 st.1 st.2) big (b,c) >>= fun x4 =>
  bif ((x4:Nat):Int) == ((a:Nat):Int) then
    some 0
  else
    some x4
def dC (a:Nat) (b:Nat) (c:Nat):Option Nat :=
  lq b c >>= fun r1 =>
  mY a r1.1 r1.2 >>= fun r2 =>
  some r2
def jD (a:Nat) (b:Nat) (c:Nat):Option Nat :=
  some (ng b c) >>= fun x1 =>
  mY a 0 x1 >>= fun r1 =>
  some r1
def mU (a:Nat) (x1:Nat) (x4:List Nat) (k2:Nat) (l4:List Nat):Option (List Nat) :=
  x4[k2]? >>= fun x6 =>
  l4[k2]? >>= fun x7 =>
  dC a x6 x1 >>= fun r3 =>
  jD a x7 r3 >>= fun r4 =>
  some (l4.set k2 r4) >>= fun l6 =>
  some l6
def iX (a:Nat) (b:List (List Nat)) (c:Nat) (k1:Nat) (l2:List Nat) (x1:Nat):Option ((List Nat) × Nat) :=
  b[k1]? >>= fun x4 =>
  dO (fun k2 (st:(List Nat))=>mU a x1 x4 k2 st) (x4.length - 0) 0 l2 >>= fun l5 =>
  dC a x1 c >>= fun r5 =>
  some (l5,r5)
def eY (a:Nat) (b:List (List Nat)) (c:Nat):Option (List Nat) :=
  qA 8 ((b.length:Nat):Int) ((b.length:Nat):Int) (0:Nat) >>= fun l1 =>
  dO (fun k1 (st:(List Nat) × Nat)=>iX a b c k1 st.1 st.2) (b.length - 0) 0 (l1,1) >>= fun (l3,x3) =>
  some l3
def fX (a:ai) (k1:Nat) (x2:List (List (List Nat))) (k2:Nat) (l3:List Nat):Option (List Nat) :=
  x2[k2]? >>= fun x4 =>
  some (sj ((k1:Nat):Int)) >>= fun x5 =>
  eY a.zs.P x4 x5 >>= fun r3 =>
  dx 8 l3 r3 >>= fun l5 =>
  some l5
def fW (a:Int) (b:ai) (k1:Nat) (l1:List (List (List Nat))):Option (List (List (List Nat))) :=
  ie b.zd.S a >>= fun x2 =>
  oT x2.length >>= fun u2 =>
  dO (fun k2 (st:(List Nat))=>fX b k1 x2 k2 st) (x2.length - 0) 0 ([]:List Nat) >>= fun l4 =>
  ie l1 a >>= fun x6 =>
  dx 24 x6 ([l4]:List (List Nat)) >>= fun l6 =>
  some (l1.set a.toNat l6) >>= fun l7 =>
  some l7
def ff (a:Int) (b:ai) (c:List (List (List Nat))):Option (List (List (List Nat))) :=
  oT (max 1 (b.zs.N+1).toNat) >>= fun u1 =>
  dO (fun k1 (st:(List (List (List Nat))))=>fW a b k1 st) ((max 1 (b.zs.N+1).toNat) - 1) 1 c >>= fun l2 =>
  some l2
def cD (a:ai) (k1:Nat) (l1:List (List (List Nat))):Option (List (List (List Nat))) :=
  ff ((k1:Nat):Int) a l1 >>= fun r2 =>
  some r2
def b0 (a:ai) (b:List (List (List Nat))):Option (List (List (List Nat))) :=
  oT (max 0 (a.zs.N).toNat) >>= fun u1 =>
  dO (fun k1 (st:(List (List (List Nat))))=>cD a k1 st) ((max 0 (a.zs.N).toNat) - 0) 0 b >>= fun l2 =>
  some l2
def bU (a:List (List Nat)):Option (List (List Nat)) :=
  dx 24 ([]:List (List Nat)) a >>= fun l1 =>
  some l1
def iI (a:List Int) (b:Int) (k1:Nat):Option (Out Unit Int) :=
  a[k1]? >>= fun x1 =>
  bif b == x1 then
    some (.fin ((k1:Nat):Int))
  else
    some (.go ())
def jN (a:List Int) (b:Int):Option Int :=
  pi (fun k1 (st:Unit)=>iI a b k1) (a.length - 0) 0 () >>= fun r1=>kZ r1 (fun x=>some x) fun _ =>
  some (-1)
def cS (a:List Int) (b:Int):Option Bool :=
  jN a b >>= fun r1 =>
  some (decide (r1 ≥ (0:Int)))
def j5 (a:ab) (b:aS) (c:Int):Option Bool :=
  bif b.Round == c then
    cS a.af b.From >>= fun r1 =>
    some r1
  else
    some false
def oa (a:Nat) (b:Nat):Option Nat :=
  mY a 0 b >>= fun r1 =>
  some r1
def cc (a:List Nat):Option (List Nat) :=
  dx 8 ([]:List Nat) a >>= fun l1 =>
  some l1
def j7 (a:List Nat) (b:Int):Option Nat :=
  bif decide (b < (0:Int)) then
    some 0
  else
    bif decide (b ≥ ((a.length:Nat):Int)) then
      some 0
    else
      ie a b >>= fun x1 =>
      some x1
def j6 (a:ab) (b:aS) (c:List Nat) (d:List Nat):Option (List Nat) :=
  bif b.Kind == (4:Int) then
    some ([]:List Nat)
  else
    bif decide (b.At ≥ ((c.length:Nat):Int)) then
      some c
    else
      oa a.S.P b.K >>= fun r1 =>
      cc c >>= fun r2 =>
      bif b.Kind == (1:Int) then
        ie r2 b.At >>= fun x1 =>
        some (r2.set b.At.toNat r1) >>= fun l1 =>
        some l1
      else
        bif b.Kind == (2:Int) then
          ie r2 b.At >>= fun x2 =>
          jD a.S.P x2 r1 >>= fun r3 =>
          some (r2.set b.At.toNat r3) >>= fun l2 =>
          some l2
        else
          bif b.Kind == (3:Int) then
            cS a.af b.Of >>= fun r4 =>
            (
              bif !r4 then
                j7 d b.bm >>= fun r5 =>
                some r5
              else
                some 0
            ) >>= fun x3 =>
            ie r2 b.At >>= fun x4 =>
            dC a.S.P r1 x3 >>= fun r6 =>
            jD a.S.P x4 r6 >>= fun r7 =>
            some (r2.set b.At.toNat r7) >>= fun l3 =>
            some l3
          else
            some r2
def dA (a:List (List (List Nat))) (k1:Nat) (l2:List (List (List Nat))):Option (List (List (List Nat))) :=
  a[k1]? >>= fun x2 =>
  bU x2 >>= fun r2 =>
  l2[k1]? >>= fun x3 =>
  some (l2.set k1 r2) >>= fun l4 =>
  some l4
def gp (a:ab) (x5:aS) (l7:List Nat) (x10:Int) (k3:Nat) (l8:List (List (List Nat))):Option (List (List (List Nat))) :=
  (
    fp ((k3:Nat):Int) (1:Int) >>= fun x14 =>
    bif x14 != x5.From then
      bif x5.To == (0:Int) then
        some true
      else
        some (x5.To == x14)
    else
      some false
  ) >>= fun x13 =>
  bif x13 then
    ie l8 x10 >>= fun x15 =>
    x15[k3]? >>= fun x16 =>
    j6 a x5 x16 l7 >>= fun r6 =>
    some (x15.set k3 r6) >>= fun l10 =>
    some (l8.set x10.toNat l10) >>= fun l11 =>
    some l11
  else
    some l8
def gn (a:ab) (b:Int) (c:List (List (List Nat))) (k2:Nat) (l5:List (List (List Nat))):Option (List (List (List Nat))) :=
  a.aa[k2]? >>= fun x5 =>
  j5 a x5 b >>= fun r4 =>
  bif !r4 then
    some l5
  else
    (
      bif x5.Kind == (3:Int) then
        lg x5.Of (1:Int) >>= fun x6 =>
        ie c x6 >>= fun x7 =>
        lg x5.From (1:Int) >>= fun x8 =>
        ie x7 x8 >>= fun x9 =>
        some x9
      else
        some ([]:List Nat)
    ) >>= fun l7 =>
    lg x5.From (1:Int) >>= fun x10 =>
    ie l5 x10 >>= fun x11 =>
    oT x11.length >>= fun u1 =>
    dO (fun k3 (st:(List (List (List Nat))))=>gp a x5 l7 x10 k3 st) (x11.length - 0) 0 l5 >>= fun l9 =>
    some l9
def bE (a:ab) (b:Int) (c:List (List (List Nat))):Option (List (List (List Nat))) :=
  qA 24 ((c.length:Nat):Int) ((c.length:Nat):Int) ([]:List (List Nat)) >>= fun l1 =>
  dO (fun k1 (st:(List (List (List Nat))))=>dA c k1 st) (c.length - 0) 0 l1 >>= fun l3 =>
  dO (fun k2 (st:(List (List (List Nat))))=>gn a b c k2 st) (a.aa.length - 0) 0 l3 >>= fun l6 =>
  some l6
def i5 (a:au) (b:Int) (c:Int) (d:List Nat):Option (List (List ao)) :=
  (
    bif b != c then
      some (decide (((d.length:Nat):Int) > (0:Int)))
    else
      some false
  ) >>= fun x1 =>
  bif x1 then
    ie a.av b >>= fun x2 =>
    fp c (1:Int) >>= fun x3 =>
    dx 8 ([]:List Nat) d >>= fun l1 =>
    dx 40 x2 ([(⟨a.ah,x3,l1⟩:ao)]:List ao) >>= fun l2 =>
    some (a.av.set b.toNat l2) >>= fun l3 =>
    some l3
  else
    some a.av
def gz (a:au) (r1:(List (List (List Nat)))) (k1:Nat) (k2:Nat) (l6:List (List ao)) (l7:List (List (List Nat))):Option ((List (List ao)) × (List (List (List Nat)))) :=
  r1[k2]? >>= fun x3 =>
  x3[k1]? >>= fun x4 =>
  dx 8 ([]:List Nat) x4 >>= fun l10 =>
  l7[k1]? >>= fun x5 =>
  dx 24 x5 ([l10]:List (List Nat)) >>= fun l11 =>
  some (l7.set k1 l11) >>= fun l12 =>
  i5 (⟨a.zw,a.ah,l6,a.ap⟩:au) ((k1:Nat):Int) ((k2:Nat):Int) l10 >>= fun r4 =>
  some (r4,l12)
def gy (a:au) (r1:(List (List (List Nat)))) (k1:Nat) (l2:List (List ao)) (l3:List (List (List Nat))):Option ((List (List ao)) × (List (List (List Nat)))) :=
  oT (max 0 (a.zw.S.N).toNat) >>= fun u1 =>
  dO (fun k2 (st:(List (List ao)) × (List (List (List Nat))))=>gz a r1 k1 k2 st.1 st.2) ((max 0 (a.zw.S.N).toNat) - 0) 0 (l2,l3) >>= fun (l8,l9) =>
  some (l8,l9)
def i4 (a:au) (b:List (List (List Nat))):Option ((List (List (List Nat))) × Int × (List (List ao))) :=
  bE a.zw a.ah b >>= fun r1 =>
  qA 24 a.zw.S.N a.zw.S.N ([]:List (List Nat)) >>= fun l1 =>
  dO (fun k1 (st:(List (List ao)) × (List (List (List Nat))))=>gy a r1 k1 st.1 st.2) (l1.length - 0) 0 (a.av,l1) >>= fun (l4,l5) =>
  fp a.ah (1:Int) >>= fun x6 =>
  some (l5,x6,l4)
def e6 (a:List Nat) (b:Int):Option (List Nat) :=
  qA 8 b b (0:Nat) >>= fun l1 =>
  some (sE l1 a)
def fZ (a:Int) (r2:(List Nat)) (k2:Nat) (l3:List (List Nat)):Option (List (List Nat)) :=
  nC ((k2:Nat):Int) a >>= fun x7 =>
  fp ((k2:Nat):Int) (1:Int) >>= fun x8 =>
  nC x8 a >>= fun x9 =>
  p7 r2 x7 x9 >>= fun l5 =>
  dx 24 l3 ([l5]:List (List Nat)) >>= fun l6 =>
  some l6
def fY (a:Int) (b:ai) (c:List (List (List Nat))) (d:Int) (k1:Nat) (l1:List (List (List (List Nat)))):Option (List (List (List (List Nat)))) :=
  b.zq[k1]? >>= fun x2 =>
  ie c a >>= fun x3 =>
  x3[k1]? >>= fun x4 =>
  nC ((x2.length:Nat):Int) d >>= fun x5 =>
  e6 x4 x5 >>= fun r2 =>
  dO (fun k2 (st:(List (List Nat)))=>fZ d r2 k2 st) (x2.length - 0) 0 ([]:List (List Nat)) >>= fun l4 =>
  ie l1 a >>= fun x10 =>
  dx 24 x10 ([l4]:List (List (List Nat))) >>= fun l7 =>
  some (l1.set a.toNat l7) >>= fun l8 =>
  some l8
def fg (a:Int) (b:ai) (c:List (List (List Nat))) (d:Int):Option aJ :=
  dO (fun k1 (st:(List (List (List (List Nat)))))=>fY a b c d k1 st) (b.zq.length - 0) 0 b.zd.Rows >>= fun l2 =>
  some (⟨b.zd.S,l2,b.zd.aE⟩:aJ)
def bu (a:ai) (b:List (List (List Nat))) (c:Int) (k1:Nat) (l1:List (List (List (List Nat)))) (l2:List (List (List (List Nat)))) (l3:List (List (List Nat))):Option ((List (List (List (List Nat)))) × (List (List (List (List Nat)))) × (List (List (List Nat)))) :=
  fg ((k1:Nat):Int) (⟨a.zn,a.zs,a.zq,(⟨l1,l2,l3⟩:aJ)⟩:ai) b c >>= fun r2 =>
  some (r2.S,r2.Rows,r2.aE)
def b8 (a:ai) (b:List (List (List Nat))) (c:Int):Option aJ :=
  oT (max 0 (a.zs.N).toNat) >>= fun u1 =>
  dO (fun k1 (st:(List (List (List (List Nat)))) × (List (List (List (List Nat)))) × (List (List (List Nat))))=>bu a b c k1 st.1 st.2.1 st.2.2) ((max 0 (a.zs.N).toNat) - 0) 0 (a.zd.S,a.zd.Rows,a.zd.aE) >>= fun (l4,l5,l6) =>
  some (⟨l4,l5,l6⟩:aJ)
def fQ (a:ai):Option (Int × (List (List ao)) × aJ) :=
  fp a.zs.T (1:Int) >>= fun x1 =>
  qA 24 a.zs.N a.zs.N ([]:List (List Nat)) >>= fun l1 =>
  b0 a l1 >>= fun r1 =>
  i4 a.zn r1 >>= fun r2 =>
  b8 (⟨(⟨a.zn.zw,r2.2.1,r2.2.2,a.zn.ap⟩:au),a.zs,a.zq,a.zd⟩:ai) r2.1 x1 >>= fun r3 =>
  some (r2.2.1,r2.2.2,r3)
def lU (a:Nat) (b:List Nat) (c:Nat) (x2:Nat) (x3:Int):Option (Out (Nat × Int) Nat) :=
  bif decide (x3 ≥ (0:Int)) then
    dC a x2 c >>= fun r2 =>
    ie b x3 >>= fun x6 =>
    jD a r2 x6 >>= fun r3 =>
    lg x3 (1:Int) >>= fun x7 =>
    some (.go (r3,x7))
  else
    some (.fin x2)
def jE (a:Nat) (b:List Nat) (c:Nat):Option Nat :=
  lg ((b.length:Nat):Int) (1:Int) >>= fun x1 =>
  sS (fun (st:Nat × Int)=>lU a b c st.1 st.2) big (0,x1) >>= fun x5 =>
  some x5
def lH (a:ai) (b:Int) (x3:List (List Nat)) (k2:Nat) (l3:List Nat):Option (List Nat) :=
  x3[k2]? >>= fun x5 =>
  some (sj b) >>= fun x6 =>
  jE a.zs.P x5 x6 >>= fun r3 =>
  dx 8 l3 ([r3]:List Nat) >>= fun l5 =>
  some l5
def jd (a:ai) (b:Int) (x1:List (List (List Nat))) (k1:Nat) (l1:List Nat):Option (List Nat) :=
  x1[k1]? >>= fun x3 =>
  dO (fun k2 (st:(List Nat))=>lH a b x3 k2 st) (x3.length - 0) 0 l1 >>= fun l4 =>
  some l4
def f9 (a:ai) (b:Int) (c:Int):Option (List Nat) :=
  ie a.zd.Rows b >>= fun x1 =>
  oT x1.length >>= fun u1 =>
  dO (fun k1 (st:(List Nat))=>jd a c x1 k1 st) (x1.length - 0) 0 ([]:List Nat) >>= fun l2 =>
  some l2
def kx (a:Int) (b:ai) (k1:Nat) (l1:List (List (List Nat))):Option (List (List (List Nat))) :=
  ie l1 a >>= fun x2 =>
  f9 b a ((k1:Nat):Int) >>= fun r2 =>
  dx 24 x2 ([r2]:List (List Nat)) >>= fun l3 =>
  some (l1.set a.toNat l3) >>= fun l4 =>
  some l4
def jc (a:Int) (b:ai) (c:List (List (List Nat))):Option (List (List (List Nat))) :=
  oT (max 1 (b.zs.N+1).toNat) >>= fun u1 =>
  dO (fun k1 (st:(List (List (List Nat))))=>kx a b k1 st) ((max 1 (b.zs.N+1).toNat) - 1) 1 c >>= fun l2 =>
  some l2
def dW (a:ai) (k1:Nat) (l1:List (List (List Nat))):Option (List (List (List Nat))) :=
  jc ((k1:Nat):Int) a l1 >>= fun r2 =>
  some r2
def cq (a:ai) (b:List (List (List Nat))):Option (List (List (List Nat))) :=
  oT (max 0 (a.zs.N).toNat) >>= fun u1 =>
  dO (fun k1 (st:(List (List (List Nat))))=>dW a k1 st) ((max 0 (a.zs.N).toNat) - 0) 0 b >>= fun l2 =>
  some l2
def hQ (a:ai):Option ((List (List (List Nat))) × Int × (List (List ao))) :=
  qA 24 a.zs.N a.zs.N ([]:List (List Nat)) >>= fun l1 =>
  cq a l1 >>= fun r1 =>
  i4 a.zn r1 >>= fun r2 =>
  some (r2.1,r2.2.1,r2.2.2)
def fj (a:ai) (k1:Nat) (r2:(List Nat)) (r3:(List Nat)) (k2:Nat) (k3:Nat) (l6:List Nat) (x9:Int):Option ((List Nat) × Int) :=
  ie r3 x9 >>= fun x12 =>
  ie r2 x9 >>= fun x13 =>
  bif ((x12:Nat):Int) != ((x13:Nat):Int) then
    nC ((k2:Nat):Int) a.zs.N >>= fun x14 =>
    fp x14 ((k1:Nat):Int) >>= fun x15 =>
    ie l6 x15 >>= fun x16 =>
    some (l6.set x15.toNat 1) >>= fun l8 =>
    fp x9 (1:Int) >>= fun x17 =>
    some (l8,x17)
  else
    fp x9 (1:Int) >>= fun x18 =>
    some (l6,x18)
def fi (a:ai) (k1:Nat) (r2:(List Nat)) (r3:(List Nat)) (k2:Nat) (l4:List Nat) (x5:Int):Option ((List Nat) × Int) :=
  a.zq[k2]? >>= fun x8 =>
  dO (fun k3 (st:(List Nat) × Int)=>fj a k1 r2 r3 k2 k3 st.1 st.2) (x8.length - 0) 0 (l4,x5) >>= fun (l7,x11) =>
  some (l7,x11)
def jz (a:ai) (b:Int) (c:List (List Nat)) (k1:Nat) (l2:List Nat):Option (List Nat) :=
  bif ((k1:Nat):Int) == b then
    some l2
  else
    fp ((k1:Nat):Int) (1:Int) >>= fun x3 =>
    f9 a b x3 >>= fun r2 =>
    c[k1]? >>= fun x4 =>
    e6 x4 ((r2.length:Nat):Int) >>= fun r3 =>
    dO (fun k2 (st:(List Nat) × Int)=>fi a k1 r2 r3 k2 st.1 st.2) (a.zq.length - 0) 0 (l2,((0:Nat):Int)) >>= fun (l5,x7) =>
    some l5
def dE (a:ai) (b:Int) (c:List (List Nat)):Option (List Nat) :=
  nC a.zs.N a.zs.N >>= fun x1 =>
  qA 8 x1 x1 (0:Nat) >>= fun l1 =>
  oT (max 0 (a.zs.N).toNat) >>= fun u1 =>
  dO (fun k1 (st:(List Nat))=>jz a b c k1 st) ((max 0 (a.zs.N).toNat) - 0) 0 l1 >>= fun l3 =>
  some l3
def iJ (a:Int) (b:ai) (c:List (List (List Nat))) (d:List (List Nat)):Option (List (List Nat)) :=
  ie c a >>= fun x1 =>
  dE b a x1 >>= fun r1 =>
  ie d a >>= fun x2 =>
  some (d.set a.toNat r1) >>= fun l1 =>
  some l1
def dQ (a:ai) (b:List (List (List Nat))) (k1:Nat) (l1:List (List Nat)):Option (List (List Nat)) :=
  iJ ((k1:Nat):Int) a b l1 >>= fun r2 =>
  some r2
def ci (a:ai) (b:List (List (List Nat))) (c:List (List Nat)):Option (List (List Nat)) :=
  oT (max 0 (a.zs.N).toNat) >>= fun u1 =>
  dO (fun k1 (st:(List (List Nat)))=>dQ a b k1 st) ((max 0 (a.zs.N).toNat) - 0) 0 c >>= fun l2 =>
  some l2
def fD (a:ab) (b:Int) (c:List (List Nat)) (k1:Nat) (l1:List (List Nat)):Option (List (List Nat)) :=
  a.aa[k1]? >>= fun x2 =>
  j5 a x2 b >>= fun r3 =>
  bif !r3 then
    some l1
  else
    (
      bif x2.Kind == (3:Int) then
        lg x2.Of (1:Int) >>= fun x3 =>
        ie c x3 >>= fun x4 =>
        some x4
      else
        some ([]:List Nat)
    ) >>= fun l3 =>
    lg x2.From (1:Int) >>= fun x5 =>
    ie l1 x5 >>= fun x6 =>
    j6 a x2 x6 l3 >>= fun r4 =>
    some (l1.set x5.toNat r4) >>= fun l4 =>
    some l4
def aV (a:ab) (b:Int) (c:List (List Nat)):Option (List (List Nat)) :=
  bU c >>= fun r1 =>
  dO (fun k1 (st:(List (List Nat)))=>fD a b c k1 st) (a.aa.length - 0) 0 r1 >>= fun l2 =>
  some l2
def iF (a:au) (k1:Nat) (l7:List (List Nat)) (k2:Nat) (l8:List (List ao)):Option (List (List ao)) :=
  l7[k1]? >>= fun x5 =>
  i5 (⟨a.zw,a.ah,l8,a.ap⟩:au) ((k2:Nat):Int) ((k1:Nat):Int) x5 >>= fun r4 =>
  some r4
def ep (a:au) (r1:(List (List Nat))) (k1:Nat) (l2:List (List ao)) (l3:List (List Nat)):Option ((List (List ao)) × (List (List Nat))) :=
  r1[k1]? >>= fun x2 =>
  dx 8 ([]:List Nat) x2 >>= fun l6 =>
  l3[k1]? >>= fun x3 =>
  some (l3.set k1 l6) >>= fun l7 =>
  dO (fun k2 (st:(List (List ao)))=>iF a k1 l7 k2 st) (l7.length - 0) 0 l2 >>= fun l9 =>
  some (l9,l7)
def cx (a:au) (b:List (List Nat)):Option ((List (List Nat)) × Int × (List (List ao))) :=
  aV a.zw a.ah b >>= fun r1 =>
  qA 24 a.zw.S.N a.zw.S.N (([]:List Nat):List Nat) >>= fun l1 =>
  dO (fun k1 (st:(List (List ao)) × (List (List Nat)))=>ep a r1 k1 st.1 st.2) (l1.length - 0) 0 (a.av,l1) >>= fun (l4,l5) =>
  fp a.ah (1:Int) >>= fun x6 =>
  some (l5,x6,l4)
def jY (a:Int) (b:ai) (r1:(List Nat)) (k1:Nat) (l1:List (List (List Nat))):Option (List (List (List Nat))) :=
  ie l1 a >>= fun x4 =>
  nC ((k1:Nat):Int) b.zs.N >>= fun x5 =>
  fp ((k1:Nat):Int) (1:Int) >>= fun x6 =>
  nC x6 b.zs.N >>= fun x7 =>
  p7 r1 x5 x7 >>= fun l3 =>
  dx 24 x4 ([l3]:List (List Nat)) >>= fun l4 =>
  some (l1.set a.toNat l4) >>= fun l5 =>
  some l5
def fP (a:Int) (b:List (List Nat)) (c:ai):Option aJ :=
  ie b a >>= fun x1 =>
  nC c.zs.N c.zs.N >>= fun x2 =>
  e6 x1 x2 >>= fun r1 =>
  oT (max 0 (c.zs.N).toNat) >>= fun u1 =>
  dO (fun k1 (st:(List (List (List Nat))))=>jY a c r1 k1 st) ((max 0 (c.zs.N).toNat) - 0) 0 c.zd.aE >>= fun l2 =>
  some (⟨c.zd.S,c.zd.Rows,l2⟩:aJ)
def bB (a:ai) (b:List (List Nat)) (k1:Nat) (l1:List (List (List (List Nat)))) (l2:List (List (List (List Nat)))) (l3:List (List (List Nat))):Option ((List (List (List (List Nat)))) × (List (List (List (List Nat)))) × (List (List (List Nat)))) :=
  fP ((k1:Nat):Int) b (⟨a.zn,a.zs,a.zq,(⟨l1,l2,l3⟩:aJ)⟩:ai) >>= fun r2 =>
  some (r2.S,r2.Rows,r2.aE)
def cj (a:ai) (b:List (List Nat)):Option aJ :=
  oT (max 0 (a.zs.N).toNat) >>= fun u1 =>
  dO (fun k1 (st:(List (List (List (List Nat)))) × (List (List (List (List Nat)))) × (List (List (List Nat))))=>bB a b k1 st.1 st.2.1 st.2.2) ((max 0 (a.zs.N).toNat) - 0) 0 (a.zd.S,a.zd.Rows,a.zd.aE) >>= fun (l4,l5,l6) =>
  some (⟨l4,l5,l6⟩:aJ)
def gL (a:ai) (b:List (List (List Nat))):Option (Int × (List (List ao)) × aJ) :=
  qA 24 a.zs.N a.zs.N (([]:List Nat):List Nat) >>= fun l1 =>
  ci a b l1 >>= fun r1 =>
  cx a.zn r1 >>= fun r2 =>
  cj (⟨(⟨a.zn.zw,r2.2.1,r2.2.2,a.zn.ap⟩:au),a.zs,a.zq,a.zd⟩:ai) r2.1 >>= fun r3 =>
  some (r2.2.1,r2.2.2,r3)
def jy (a:au) (b:List (List (List Nat))):Option (aJ × Int × (List (List ao)) × (List aA)) :=
  bQ a >>= fun r1 =>
  qA 24 r1.S.N r1.S.N ([]:List (List (List Nat))) >>= fun l1 =>
  qA 24 r1.S.N r1.S.N ([]:List (List Nat)) >>= fun l2 =>
  ip (⟨a,r1.S,b,(⟨l1,l1,l2⟩:aJ)⟩:ai) >>= fun r2 =>
  fQ (⟨(⟨a.zw,a.ah,a.av,r2.1⟩:au),r1.S,b,r2.2⟩:ai) >>= fun r3 =>
  hQ (⟨(⟨a.zw,r3.1,r3.2.1,r2.1⟩:au),r1.S,b,r3.2.2⟩:ai) >>= fun r4 =>
  gL (⟨(⟨a.zw,r4.2.1,r4.2.2,r2.1⟩:au),r1.S,b,r3.2.2⟩:ai) r4.1 >>= fun r5 =>
  some (r5.2.2,r5.1,r5.2.1,r2.1)
def bg (a:aw):Option Int :=
  some ((a.zd.Rows.length:Nat):Int)
def mR (k1:Nat) (x3:List Nat) (k2:Nat) (l3:List bV):Option (List bV) :=
  x3[k2]? >>= fun x5 =>
  bif ((x5:Nat):Int) != (0:Int) then
    dx 16 l3 ([(⟨((k1:Nat):Int),((k2:Nat):Int)⟩:bV)]:List bV) >>= fun l5 =>
    some l5
  else
    some l3
def jO (a:aw) (b:Int) (k1:Nat) (l1:List bV):Option (List bV) :=
  a.zd.aE[k1]? >>= fun x2 =>
  ie x2 b >>= fun x3 =>
  dO (fun k2 (st:(List bV))=>mR k1 x3 k2 st) (x3.length - 0) 0 l1 >>= fun l4 =>
  some l4
def fL (a:aw) (b:Int):Option (List bV) :=
  bg a >>= fun r1 =>
  oT (max 0 (r1).toNat) >>= fun u1 =>
  dO (fun k1 (st:(List bV))=>jO a b k1 st) ((max 0 (r1).toNat) - 0) 0 ([]:List bV) >>= fun l2 =>
  some l2
def qM (a:Int):Option Nat :=
  fp a (1:Int) >>= fun x1 =>
  some (sj x1) >>= fun x2 =>
  some x2
def lM (a:Nat) (b:List (List Nat)) (c:Nat) (d:Nat):Option Nat :=
  eY a b c >>= fun r1 =>
  jE a r1 d >>= fun r2 =>
  some r2
def gx (a:aw) (b:Int):Option Int :=
  ie a.zd.S b >>= fun x1 =>
  some ((x1.length:Nat):Int)
def jb (a:m7) (b:Int):Option ((List Nat) × (List Nat)) :=
  e6 a.zl b >>= fun r1 =>
  some (min b ((a.zl.length:Nat):Int)) >>= fun x1 =>
  p7 a.zl x1 ((a.zl.length:Nat):Int) >>= fun l1 =>
  some (r1,l1)
def nJ (a:aw) (x3:bV) (x4:List (List (List Nat))) (k3:Nat) (l5:List Nat):Option (List Nat) :=
  x4[k3]? >>= fun x6 =>
  qM x3.e0 >>= fun r6 =>
  qM x3.e1 >>= fun r7 =>
  lM a.zp x6 r6 r7 >>= fun r8 =>
  dx 8 l5 ([r8]:List Nat) >>= fun l7 =>
  some l7
def kq (a:aw) (k1:Nat) (r3:(List bV)) (k2:Nat) (l3:List Nat):Option (List Nat) :=
  r3[k2]? >>= fun x3 =>
  a.zd.S[k1]? >>= fun x4 =>
  dO (fun k3 (st:(List Nat))=>nJ a x3 x4 k3 st) (x4.length - 0) 0 l3 >>= fun l6 =>
  some l6
def kp (a:aw) (k1:Nat) (l1:List (List Nat)):Option (List (List Nat)) :=
  fL a ((k1:Nat):Int) >>= fun r3 =>
  dO (fun k2 (st:(List Nat))=>kq a k1 r3 k2 st) (r3.length - 0) 0 ([]:List Nat) >>= fun l4 =>
  dx 24 l1 ([l4]:List (List Nat)) >>= fun l8 =>
  some l8
def fV (a:aw) (r9:(List (List Nat)) × Int × (List (List ao))) (k4:Nat) (k5:Nat) (l11:List Nat) (l12:List (List Nat)):Option ((List Nat) × (List (List Nat))) :=
  gx (⟨(⟨a.zn.zw,r9.2.1,r9.2.2,a.zn.ap⟩:au),a.zp,a.zd,a.aR,a.bT,a.c8⟩:aw) ((k4:Nat):Int) >>= fun r14 =>
  jb (⟨l11⟩:m7) r14 >>= fun r15 =>
  dx 24 l12 ([r15.1]:List (List Nat)) >>= fun l15 =>
  some (r15.2,l15)
def nK (a:aw) (r9:(List (List Nat)) × Int × (List (List ao))) (k4:Nat) (l9:List (List (List Nat))):Option (List (List (List Nat))) :=
  r9.1[k4]? >>= fun x8 =>
  fL (⟨(⟨a.zn.zw,r9.2.1,r9.2.2,a.zn.ap⟩:au),a.zp,a.zd,a.aR,a.bT,a.c8⟩:aw) ((k4:Nat):Int) >>= fun r12 =>
  dO (fun k5 (st:(List Nat) × (List (List Nat)))=>fV a r9 k4 k5 st.1 st.2) (r12.length - 0) 0 (x8,([]:List (List Nat))) >>= fun (l13,l14) =>
  dx 24 l9 ([l14]:List (List (List Nat))) >>= fun l16 =>
  some l16
def jW (a:aw):Option ((List (List (List Nat))) × Int × (List (List ao))) :=
  bg a >>= fun r1 =>
  oT (max 0 (r1).toNat) >>= fun u1 =>
  dO (fun k1 (st:(List (List Nat)))=>kp a k1 st) ((max 0 (r1).toNat) - 0) 0 ([]:List (List Nat)) >>= fun l2 =>
  cx a.zn l2 >>= fun r9 =>
  bg (⟨(⟨a.zn.zw,r9.2.1,r9.2.2,a.zn.ap⟩:au),a.zp,a.zd,a.aR,a.bT,a.c8⟩:aw) >>= fun r10 =>
  oT (max 0 (r10).toNat) >>= fun u2 =>
  dO (fun k4 (st:(List (List (List Nat))))=>nK a r9 k4 st) ((max 0 (r10).toNat) - 0) 0 ([]:List (List (List Nat))) >>= fun l10 =>
  some (l10,r9.2.1,r9.2.2)
def qN (a:bV) (b:Int):Option (List Int) :=
  (
    bif a.e0 == b then
      dx 8 ([]:List Int) ([a.e1]:List Int) >>= fun l2 =>
      some l2
    else
      some ([]:List Int)
  ) >>= fun l1 =>
  bif a.e1 == b then
    dx 8 l1 ([a.e0]:List Int) >>= fun l3 =>
    some l3
  else
    some l1
def li (a:aw) (b:Int) (c:Int) (d:Int):Option (List Nat) :=
  ie a.zd.Rows b >>= fun x1 =>
  ie x1 c >>= fun x2 =>
  ie x2 d >>= fun x3 =>
  some x3
def kw (a:aw) (b:Int) (c:Int) (x2:Int) (x3:List Nat) (k3:Nat):Option (Out Unit Bool) :=
  x3[k3]? >>= fun x4 =>
  li a b c ((k3:Nat):Int) >>= fun r6 =>
  qM x2 >>= fun r7 =>
  jE a.zp r6 r7 >>= fun r8 =>
  bif ((r8:Nat):Int) != ((x4:Nat):Int) then
    some (.fin true)
  else
    some (.go ())
def kv (a:aw) (b:Int) (c:Int) (d:List (List Nat)) (k1:Nat) (r3:(List Int)) (k2:Nat):Option (Out Unit Bool) :=
  r3[k2]? >>= fun x2 =>
  d[k1]? >>= fun x3 =>
  pi (fun k3 (st:Unit)=>kw a b c x2 x3 k3) (x3.length - 0) 0 () >>= fun r5=>kZ r5 (fun x=>some (.fin x)) fun _ =>
  some (.go ())
def ku (a:aw) (b:Int) (c:Int) (d:List (List Nat)) (r1:(List bV)) (k1:Nat):Option (Out Unit Bool) :=
  r1[k1]? >>= fun x1 =>
  qN x1 b >>= fun r3 =>
  pi (fun k2 (st:Unit)=>kv a b c d k1 r3 k2) (r3.length - 0) 0 () >>= fun r4=>kZ r4 (fun x=>some (.fin x)) fun _ =>
  some (.go ())
def jX (a:aw) (b:Int) (c:Int) (d:List (List Nat)):Option Bool :=
  fL a c >>= fun r1 =>
  pi (fun k1 (st:Unit)=>ku a b c d r1 k1) (r1.length - 0) 0 () >>= fun r2=>kZ r2 (fun x=>some x) fun _ =>
  some false
def gX (a:Int) (b:Int) (c:aw) (d:List (List (List Nat))):Option Bool :=
  ie d b >>= fun x1 =>
  jX c a b x1 >>= fun r1 =>
  some r1
def lk (a:aw) (b:List (List (List Nat))) (k1:Nat) (k2:Nat) (l3:List Nat):Option (List Nat) :=
  gX ((k1:Nat):Int) ((k2:Nat):Int) a b >>= fun r4 =>
  bif r4 then
    dx 8 l3 ([1]:List Nat) >>= fun l5 =>
    some l5
  else
    dx 8 l3 ([0]:List Nat) >>= fun l6 =>
    some l6
def lj (a:aw) (b:List (List (List Nat))) (r1:Int) (k1:Nat) (l1:List (List Nat)):Option (List (List Nat)) :=
  dO (fun k2 (st:(List Nat))=>lk a b k1 k2 st) ((max 0 (r1).toNat) - 0) 0 ([]:List Nat) >>= fun l4 =>
  dx 24 l1 ([l4]:List (List Nat)) >>= fun l7 =>
  some l7
def gN (r5:(List (List Nat)) × Int × (List (List ao))) (r6:Int) (k3:Nat) (k4:Nat) (l11:List (List Bool)):Option (List (List Bool)) :=
  l11[k3]? >>= fun x5 =>
  r5.1[k4]? >>= fun x6 =>
  e6 x6 r6 >>= fun r9 =>
  r9[k3]? >>= fun x7 =>
  dx 1 x5 ([((x7:Nat):Int) != (0:Int)]:List Bool) >>= fun l13 =>
  some (l11.set k3 l13) >>= fun l14 =>
  some l14
def eC (r5:(List (List Nat)) × Int × (List (List ao))) (r6:Int) (k3:Nat) (l9:List (List Bool)):Option (List (List Bool)) :=
  oT (max 0 (r6).toNat) >>= fun u2 =>
  dO (fun k4 (st:(List (List Bool)))=>gN r5 r6 k3 k4 st) ((max 0 (r6).toNat) - 0) 0 l9 >>= fun l12 =>
  some l12
def fe (a:aw) (b:List (List (List Nat))):Option ((List (List Bool)) × Int × (List (List ao))) :=
  bg a >>= fun r1 =>
  oT (max 0 (r1).toNat) >>= fun u1 =>
  dO (fun k1 (st:(List (List Nat)))=>lj a b r1 k1 st) ((max 0 (r1).toNat) - 0) 0 ([]:List (List Nat)) >>= fun l2 =>
  cx a.zn l2 >>= fun r5 =>
  bg (⟨(⟨a.zn.zw,r5.2.1,r5.2.2,a.zn.ap⟩:au),a.zp,a.zd,a.aR,a.bT,a.c8⟩:aw) >>= fun r6 =>
  qA 24 r6 r6 ([]:List Bool) >>= fun l8 =>
  dO (fun k3 (st:(List (List Bool)))=>eC r5 r6 k3 st) (l8.length - 0) 0 l8 >>= fun l10 =>
  some (l10,r5.2.1,r5.2.2)
def po (a:aw) (k2:Nat) (x5:List (List (List Nat))) (k3:Nat) (l5:List Nat):Option (List Nat) :=
  x5[k3]? >>= fun x7 =>
  qM ((k2:Nat):Int) >>= fun r5 =>
  eY a.zp x7 r5 >>= fun r6 =>
  dx 8 l5 r6 >>= fun l7 =>
  some l7
def mD (a:aw) (k1:Nat) (x2:List Bool) (k2:Nat) (l3:List Nat):Option (List Nat) :=
  x2[k2]? >>= fun x4 =>
  bif x4 then
    a.zd.S[k1]? >>= fun x5 =>
    dO (fun k3 (st:(List Nat))=>po a k2 x5 k3 st) (x5.length - 0) 0 l3 >>= fun l6 =>
    some l6
  else
    some l3
def mC (a:aw) (k1:Nat) (l1:List (List Nat)):Option (List (List Nat)) :=
  a.aR[k1]? >>= fun x2 =>
  dO (fun k2 (st:(List Nat))=>mD a k1 x2 k2 st) (x2.length - 0) 0 ([]:List Nat) >>= fun l4 =>
  dx 24 l1 ([l4]:List (List Nat)) >>= fun l8 =>
  some l8
def io (x8:Int) (k5:Nat) (k6:Nat) (l16:List Nat) (l17:List (List (List Nat))):Option ((List Nat) × (List (List (List Nat)))) :=
  l17[k5]? >>= fun x15 =>
  jb (⟨l16⟩:m7) x8 >>= fun r15 =>
  dx 24 x15 ([r15.1]:List (List Nat)) >>= fun l20 =>
  some (l17.set k5 l20) >>= fun l21 =>
  some (r15.2,l21)
def gm (a:aw) (r7:(List (List Nat)) × Int × (List (List ao))) (x8:Int) (l9:List (List (List (List Nat)))) (k4:Nat) (x11:List Bool) (k5:Nat) (l12:List Nat) (l13:List (List (List Nat))):Option ((List Nat) × (List (List (List Nat)))) :=
  x11[k5]? >>= fun x13 =>
  bif x13 then
    gx (⟨(⟨a.zn.zw,r7.2.1,r7.2.2,a.zn.ap⟩:au),a.zp,a.zd,a.aR,a.bT,l9⟩:aw) ((k4:Nat):Int) >>= fun r13 =>
    oT (max 0 (r13).toNat) >>= fun u3 =>
    dO (fun k6 (st:(List Nat) × (List (List (List Nat))))=>io x8 k5 k6 st.1 st.2) ((max 0 (r13).toNat) - 0) 0 (l12,l13) >>= fun (l18,l19) =>
    some (l18,l19)
  else
    some (l12,l13)
def pp (a:aw) (r7:(List (List Nat)) × Int × (List (List ao))) (x8:Int) (k4:Nat) (l9:List (List (List (List Nat)))):Option (List (List (List (List Nat)))) :=
  r7.1[k4]? >>= fun x10 =>
  bg (⟨(⟨a.zn.zw,r7.2.1,r7.2.2,a.zn.ap⟩:au),a.zp,a.zd,a.aR,a.bT,l9⟩:aw) >>= fun r11 =>
  qA 24 r11 r11 ([]:List (List Nat)) >>= fun l11 =>
  a.aR[k4]? >>= fun x11 =>
  dO (fun k5 (st:(List Nat) × (List (List (List Nat))))=>gm a r7 x8 l9 k4 x11 k5 st.1 st.2) (x11.length - 0) 0 (x10,l11) >>= fun (l14,l15) =>
  dx 24 l9 ([l15]:List (List (List (List Nat)))) >>= fun l22 =>
  some l22
def mB (a:aw):Option (Int × (List (List ao)) × (List (List (List (List Nat))))) :=
  bg a >>= fun r1 =>
  oT (max 0 (r1).toNat) >>= fun u1 =>
  dO (fun k1 (st:(List (List Nat)))=>mC a k1 st) ((max 0 (r1).toNat) - 0) 0 ([]:List (List Nat)) >>= fun l2 =>
  cx a.zn l2 >>= fun r7 =>
  bQ (⟨a.zn.zw,r7.2.1,r7.2.2,a.zn.ap⟩:au) >>= fun r8 =>
  fp r8.S.T (1:Int) >>= fun x8 =>
  bg (⟨(⟨a.zn.zw,r7.2.1,r7.2.2,a.zn.ap⟩:au),a.zp,a.zd,a.aR,a.bT,a.c8⟩:aw) >>= fun r9 =>
  oT (max 0 (r9).toNat) >>= fun u2 =>
  dO (fun k4 (st:(List (List (List (List Nat)))))=>pp a r7 x8 k4 st) ((max 0 (r9).toNat) - 0) 0 a.c8 >>= fun l10 =>
  some (r7.2.1,r7.2.2,l10)
def jw (a:aw) (b:Int) (c:Int) (k1:Nat) (x4:List (List Nat)) (k2:Nat):Option (Out Unit Bool) :=
  x4[k2]? >>= fun x5 =>
  qM b >>= fun r3 =>
  jE a.zp x5 r3 >>= fun r4 =>
  li a b c ((k2:Nat):Int) >>= fun r5 =>
  qM ((k1:Nat):Int) >>= fun r6 =>
  jE a.zp r5 r6 >>= fun r7 =>
  bif ((r4:Nat):Int) != ((r7:Nat):Int) then
    some (.fin true)
  else
    some (.go ())
def jv (a:aw) (b:Int) (c:Int) (x3:List (List (List Nat))) (k1:Nat):Option (Out Unit Bool) :=
  x3[k1]? >>= fun x4 =>
  pi (fun k2 (st:Unit)=>jw a b c k1 x4 k2) (x4.length - 0) 0 () >>= fun r2=>kZ r2 (fun x=>some (.fin x)) fun _ =>
  some (.go ())
def dD (a:aw) (b:Int) (c:Int):Option Bool :=
  ie a.aR c >>= fun x1 =>
  ie x1 b >>= fun x2 =>
  bif x2 then
    some false
  else
    ie a.c8 c >>= fun x3 =>
    pi (fun k1 (st:Unit)=>jv a b c x3 k1) (x3.length - 0) 0 () >>= fun r1=>kZ r1 (fun x=>some x) fun _ =>
    some false
def jQ (a:aw) (k1:Nat) (k2:Nat) (l3:List Nat):Option (List Nat) :=
  dD a ((k1:Nat):Int) ((k2:Nat):Int) >>= fun r4 =>
  bif r4 then
    dx 8 l3 ([1]:List Nat) >>= fun l5 =>
    some l5
  else
    dx 8 l3 ([0]:List Nat) >>= fun l6 =>
    some l6
def jP (a:aw) (r1:Int) (k1:Nat) (l1:List (List Nat)):Option (List (List Nat)) :=
  dO (fun k2 (st:(List Nat))=>jQ a k1 k2 st) ((max 0 (r1).toNat) - 0) 0 ([]:List Nat) >>= fun l4 =>
  dx 24 l1 ([l4]:List (List Nat)) >>= fun l7 =>
  some l7
def jS (r5:(List (List Nat)) × Int × (List (List ao))) (r6:Int) (k3:Nat) (k4:Nat) (l11:List (List Bool)):Option (List (List Bool)) :=
  l11[k3]? >>= fun x5 =>
  r5.1[k4]? >>= fun x6 =>
  e6 x6 r6 >>= fun r9 =>
  r9[k3]? >>= fun x7 =>
  dx 1 x5 ([((x7:Nat):Int) != (0:Int)]:List Bool) >>= fun l13 =>
  some (l11.set k3 l13) >>= fun l14 =>
  some l14
def jR (r5:(List (List Nat)) × Int × (List (List ao))) (r6:Int) (k3:Nat) (l9:List (List Bool)):Option (List (List Bool)) :=
  oT (max 0 (r6).toNat) >>= fun u2 =>
  dO (fun k4 (st:(List (List Bool)))=>jS r5 r6 k3 k4 st) ((max 0 (r6).toNat) - 0) 0 l9 >>= fun l12 =>
  some l12
def dU (a:aw):Option ((List (List Bool)) × Int × (List (List ao))) :=
  bg a >>= fun r1 =>
  oT (max 0 (r1).toNat) >>= fun u1 =>
  dO (fun k1 (st:(List (List Nat)))=>jP a r1 k1 st) ((max 0 (r1).toNat) - 0) 0 ([]:List (List Nat)) >>= fun l2 =>
  cx a.zn l2 >>= fun r5 =>
  bg (⟨(⟨a.zn.zw,r5.2.1,r5.2.2,a.zn.ap⟩:au),a.zp,a.zd,a.aR,a.bT,a.c8⟩:aw) >>= fun r6 =>
  qA 24 r6 r6 ([]:List Bool) >>= fun l8 =>
  dO (fun k3 (st:(List (List Bool)))=>jR r5 r6 k3 st) (l8.length - 0) 0 l8 >>= fun l10 =>
  some (l10,r5.2.1,r5.2.2)
def m6 (a:aw) (b:Int) (k1:Nat) (x1:Int):Option Int :=
  ie a.aR b >>= fun x4 =>
  x4[k1]? >>= fun x5 =>
  bif x5 then
    fp x1 (1:Int) >>= fun x6 =>
    some x6
  else
    ie a.bT b >>= fun x7 =>
    x7[k1]? >>= fun x8 =>
    bif x8 then
      fp x1 (1:Int) >>= fun x9 =>
      some x9
    else
      some x1
def nb (a:aw) (b:Int):Option Bool :=
  bg a >>= fun r1 =>
  oT (max 0 (r1).toNat) >>= fun u1 =>
  dO (fun k1 (st:Int)=>m6 a b k1 st) ((max 0 (r1).toNat) - 0) 0 ((0:Nat):Int) >>= fun x3 =>
  bQ a.zn >>= fun r3 =>
  some (decide (x3 > r3.S.T))
def pn (a:aw) (k1:Nat) (l2:List (List Nat)):Option (List (List Nat)) :=
  bQ a.zn >>= fun r3 =>
  fp r3.S.T (1:Int) >>= fun x2 =>
  qA 8 x2 x2 (0:Nat) >>= fun l4 =>
  l2[k1]? >>= fun x3 =>
  some (l2.set k1 l4) >>= fun l5 =>
  some l5
def mA (a:aw) (b:Int) (c:Int) (d:Bool):Option (List (List Nat)) :=
  bif d then
    gx a c >>= fun r1 =>
    qA 24 r1 r1 (([]:List Nat):List Nat) >>= fun l1 =>
    dO (fun k1 (st:(List (List Nat)))=>pn a k1 st) (l1.length - 0) 0 l1 >>= fun l3 =>
    some l3
  else
    ie a.aR c >>= fun x4 =>
    ie x4 b >>= fun x5 =>
    bif x5 then
      ie a.c8 c >>= fun x6 =>
      ie x6 b >>= fun x7 =>
      some x7
    else
      ie a.zd.Rows b >>= fun x8 =>
      ie x8 c >>= fun x9 =>
      bU x9 >>= fun r4 =>
      some r4
def qV (a:au) (b:aJ) (r1:ab) (r3:(List (List Bool)) × Int × (List (List ao))) (r4:Int × (List (List ao)) × (List (List (List (List Nat))))) (r5:(List (List Bool)) × Int × (List (List ao))) (k1:Nat) (l1:List Bool):Option (List Bool) :=
  nb (⟨(⟨a.zw,r5.2.1,r5.2.2,a.ap⟩:au),r1.S.P,b,r3.1,r5.1,r4.2.2⟩:aw) ((k1:Nat):Int) >>= fun r8 =>
  dx 1 l1 ([r8]:List Bool) >>= fun l3 =>
  some l3
def qX (a:au) (b:aJ) (r1:ab) (r3:(List (List Bool)) × Int × (List (List ao))) (r4:Int × (List (List ao)) × (List (List (List (List Nat))))) (r5:(List (List Bool)) × Int × (List (List ao))) (l2:List Bool) (k2:Nat) (k3:Nat) (l6:List (List (List Nat))):Option (List (List (List Nat))) :=
  l2[k3]? >>= fun x4 =>
  mA (⟨(⟨a.zw,r5.2.1,r5.2.2,a.ap⟩:au),r1.S.P,b,r3.1,r5.1,r4.2.2⟩:aw) ((k2:Nat):Int) ((k3:Nat):Int) x4 >>= fun r11 =>
  dx 24 l6 ([r11]:List (List (List Nat))) >>= fun l8 =>
  some l8
def qW (a:au) (b:aJ) (r1:ab) (r3:(List (List Bool)) × Int × (List (List ao))) (r4:Int × (List (List ao)) × (List (List (List (List Nat))))) (r5:(List (List Bool)) × Int × (List (List ao))) (r6:Int) (l2:List Bool) (k2:Nat) (l4:List (List (List (List Nat)))):Option (List (List (List (List Nat)))) :=
  dO (fun k3 (st:(List (List (List Nat))))=>qX a b r1 r3 r4 r5 l2 k2 k3 st) ((max 0 (r6).toNat) - 0) 0 ([]:List (List (List Nat))) >>= fun l7 =>
  dx 24 l4 ([l7]:List (List (List (List Nat)))) >>= fun l9 =>
  some l9
def oh (a:au) (b:aJ):Option (bv × Int × (List (List ao))) :=
  bQ a >>= fun r1 =>
  jW (⟨a,r1.S.P,b,([]:List (List Bool)),([]:List (List Bool)),([]:List (List (List (List Nat))))⟩:aw) >>= fun r2 =>
  fe (⟨(⟨a.zw,r2.2.1,r2.2.2,a.ap⟩:au),r1.S.P,b,([]:List (List Bool)),([]:List (List Bool)),([]:List (List (List (List Nat))))⟩:aw) r2.1 >>= fun r3 =>
  mB (⟨(⟨a.zw,r3.2.1,r3.2.2,a.ap⟩:au),r1.S.P,b,r3.1,([]:List (List Bool)),([]:List (List (List (List Nat))))⟩:aw) >>= fun r4 =>
  dU (⟨(⟨a.zw,r4.1,r4.2.1,a.ap⟩:au),r1.S.P,b,r3.1,([]:List (List Bool)),r4.2.2⟩:aw) >>= fun r5 =>
  bg (⟨(⟨a.zw,r5.2.1,r5.2.2,a.ap⟩:au),r1.S.P,b,r3.1,r5.1,r4.2.2⟩:aw) >>= fun r6 =>
  oT (max 0 (r6).toNat) >>= fun u1 =>
  dO (fun k1 (st:(List Bool))=>qV a b r1 r3 r4 r5 k1 st) ((max 0 (r6).toNat) - 0) 0 ([]:List Bool) >>= fun l2 =>
  dO (fun k2 (st:(List (List (List (List Nat)))))=>qW a b r1 r3 r4 r5 r6 l2 k2 st) ((max 0 (r6).toNat) - 0) 0 ([]:List (List (List (List Nat)))) >>= fun l5 =>
  some ((⟨l5,l2⟩:bv),r5.2.1,r5.2.2)
def sk (a:au) (b:List (List (List Nat))):Option (bv × Int × (List (List ao)) × (List aA)) :=
  jy a b >>= fun r1 =>
  oh (⟨a.zw,r1.2.1,r1.2.2.1,r1.2.2.2⟩:au) r1.1 >>= fun r2 =>
  some (r2.1,r2.2.1,r2.2.2,r1.2.2.2)
def kJ (a:Int) (k1:Nat) (l1:List Nat):Option (List Nat) :=
  fp a ((k1:Nat):Int) >>= fun x2 =>
  some (sj x2) >>= fun x3 =>
  dx 8 l1 ([x3]:List Nat) >>= fun l3 =>
  some l3
def e5 (a:Int) (b:Int):Option (List Nat) :=
  oT (max 0 (b).toNat) >>= fun u1 =>
  dO (fun k1 (st:(List Nat))=>kJ a k1 st) ((max 0 (b).toNat) - 0) 0 ([]:List Nat) >>= fun l2 =>
  some l2
def pI (a:Nat):Option Int :=
  lp a >>= fun r1 =>
  some r1
def kA (a:Nat):Option Bool :=
  some (((a:Nat):Int) != ((a:Nat):Int))
def ln (a:Nat) (b:Nat):Option Bool :=
  kA a >>= fun r1 =>
  bif r1 then
    kA b >>= fun r2 =>
    bif !r2 then
      some true
    else
      some (decide (((a:Nat):Int) < ((b:Nat):Int)))
  else
    some (decide (((a:Nat):Int) < ((b:Nat):Int)))
def cw (a:Int) (l4:List Nat) (x3:Int):Option (Out ((List Nat) × Int) (List Nat)) :=
  (
    bif decide (x3 > a) then
      ie l4 x3 >>= fun x5 =>
      lg x3 (1:Int) >>= fun x6 =>
      ie l4 x6 >>= fun x7 =>
      ln x5 x7 >>= fun r3 =>
      some r3
    else
      some false
  ) >>= fun x4 =>
  bif x4 then
    lg x3 (1:Int) >>= fun x8 =>
    ie l4 x8 >>= fun x9 =>
    ie l4 x3 >>= fun x10 =>
    some (l4.set x3.toNat x9) >>= fun l7 =>
    ie l7 x8 >>= fun x11 =>
    some (l7.set x8.toNat x10) >>= fun l8 =>
    some (.go (l8,x8))
  else
    some (.fin l4)
def cv (a:Int) (b:Int) (l1:List Nat) (x2:Int):Option (Out ((List Nat) × Int) (List Nat)) :=
  bif decide (x2 < b) then
    sS (fun (st:(List Nat) × Int)=>cw a st.1 st.2) big (l1,x2) >>= fun l6 =>
    fp x2 (1:Int) >>= fun x12 =>
    some (.go (l6,x12))
  else
    some (.fin l1)
def dw (a:List Nat) (b:Int) (c:Int):Option (List Nat) :=
  fp b (1:Int) >>= fun x1 =>
  sS (fun (st:(List Nat) × Int)=>cv b c st.1 st.2) big (a,x1) >>= fun l3 =>
  some l3
def dK (a:List Nat) (b:Int) (c:Int):Option (Out Unit ((List Nat) ⊕ Unit)) :=
  lg c b >>= fun x1 =>
  bif decide (x1≤(12:Int)) then
    dw a b c >>= fun r2 =>
    some (.fin (.inl r2))
  else
    none
def gw (a:List Nat) (b:Int) (c:Int) (d:Int):Option (List Nat) :=
  sS (fun (st:Unit)=>dK a b c) big () >>= fun r1=>B7 r1 (fun x=>some x) fun _ =>
  none
def fc (a:List Nat):Option (List Nat) :=
  some (sj ((a.length:Nat):Int)) >>= fun x1 =>
  pI x1 >>= fun r1 =>
  gw a ((0:Nat):Int) ((a.length:Nat):Int) r1 >>= fun r2 =>
  some r2
def fb (a:List Nat) (x1:Int):Option (Out Int Unit) :=
  bif decide (x1 < ((a.length:Nat):Int)) then
    ie a x1 >>= fun x2 =>
    lg x1 (1:Int) >>= fun x3 =>
    ie a x3 >>= fun x4 =>
    bif ((x2:Nat):Int) == ((x4:Nat):Int) then
      none
    else
      fp x1 (1:Int) >>= fun x5 =>
      some (.go x5)
  else
    some (.fin ())
def em (a:List Nat):Option (List Nat) :=
  bif decide (((a.length:Nat):Int) < (2:Int)) then
    some a
  else
    sS (fun (st:Int)=>fb a st) big ((1:Nat):Int) >>= fun _ =>
    some a
def eI (a:List Nat):Option Bool :=
  cc a >>= fun r1 =>
  fc r1 >>= fun r2 =>
  em r2 >>= fun r3 =>
  some (((r3.length:Nat):Int) == ((a.length:Nat):Int))
def mX (a:Nat) (b:Nat):Option Nat :=
  bif ((b:Nat):Int) == (0:Int) then
    some 0
  else
    some (wj a b) >>= fun x1 =>
    some x1
def lD (a:Nat) (b:Nat) (c:Nat):Option Nat :=
  mX a c >>= fun r1 =>
  jD a b r1 >>= fun r2 =>
  some r2
def fR (a:Nat) (b:Nat) (c:Nat) (d:Nat) (e:Nat) (f:Nat):Option (Nat × Nat) :=
  lD b d a >>= fun r1 =>
  dC b c r1 >>= fun r2 =>
  lD b f a >>= fun r3 =>
  dC b e r3 >>= fun r4 =>
  some (r2,r4)
def bo (a:List Nat) (b:Int) (c:Nat) (d:Nat) (e:Nat) (k1:Nat) (x1:Nat) (x2:Nat):Option (Nat × Nat) :=
  a[k1]? >>= fun x6 =>
  bif ((k1:Nat):Int) != b then
    fR x6 c x1 d x2 e >>= fun r2 =>
    some (r2.1,r2.2)
  else
    some (x1,x2)
def cK (a:List Nat) (b:Int) (c:Nat) (d:Nat) (e:Nat) (f:Nat) (g:Nat):Option (Nat × Nat) :=
  dO (fun k1 (st:Nat × Nat)=>bo a b c e g k1 st.1 st.2) (a.length - 0) 0 (d,f) >>= fun (x4,x5) =>
  some (x4,x5)
def lS (a:Nat) (x1:Nat) (x2:Nat) (x3:Nat):Option (Out (Nat × Nat × Nat) Nat) :=
  bif decide (((x2:Nat):Int) > (0:Int)) then
    some (uE x2 1) >>= fun x6 =>
    bif ((x6:Nat):Int) == (1:Int) then
      dC a x3 x1 >>= fun r2 =>
      dC a x1 x1 >>= fun r3 =>
      sV x2 (1:Int) >>= fun x7 =>
      some (.go (r3,x7,r2))
    else
      dC a x1 x1 >>= fun r4 =>
      sV x2 (1:Int) >>= fun x8 =>
      some (.go (r4,x8,x3))
  else
    some (.fin x3)
def rX (a:Nat) (b:Nat) (c:Nat):Option Nat :=
  sS (fun (st:Nat × Nat × Nat)=>lS a st.1 st.2.1 st.2.2) big (b,c,1) >>= fun x5 =>
  some x5
def kV (a:Nat) (b:Nat):Option (Nat × Int) :=
  bif ((b:Nat):Int) == (0:Int) then
    some (0,((8:Nat):Int))
  else
    some (wj a 2) >>= fun x1 =>
    rX a b x1 >>= fun r1 =>
    some (r1,((0:Nat):Int))
def iZ (a:Nat) (b:Nat) (c:Nat):Option Nat :=
  kV a c >>= fun r1 =>
  dC a b r1.1 >>= fun r2 =>
  some r2
def fG (a:Nat) (b:List Nat) (c:Nat) (k1:Nat) (l1:List Nat):Option (List Nat) :=
  b[k1]? >>= fun x2 =>
  cK b ((k1:Nat):Int) a 1 c 1 x2 >>= fun r3 =>
  iZ a r3.1 r3.2 >>= fun r4 =>
  dx 8 l1 ([r4]:List Nat) >>= fun l3 =>
  some l3
def eU (a:Nat) (b:List Nat) (c:Nat):Option ((List Nat) × Int) :=
  eI b >>= fun r1 =>
  bif !r1 then
    some (([]:List Nat),((1:Nat):Int))
  else
    dO (fun k1 (st:(List Nat))=>fG a b c k1 st) (b.length - 0) 0 ([]:List Nat) >>= fun l2 =>
    some (l2,((0:Nat):Int))
def jk (a:Nat) (r1:(List Nat)) (r2:(List Nat)) (k1:Nat) (l1:List (List Nat)):Option (Out (List (List Nat)) ((List (List Nat)) × Int)) :=
  r2[k1]? >>= fun x6 =>
  eU a r1 x6 >>= fun r4 =>
  bif r4.2 != (0:Int) then
    some (.fin (([]:List (List Nat)),r4.2))
  else
    dx 24 l1 ([r4.1]:List (List Nat)) >>= fun l4 =>
    some (.go l4)
def dZ (a:Nat) (b:Int) (c:Int):Option ((List (List Nat)) × Int) :=
  (
    bif decide (b < (1:Int)) then
      some true
    else
      bif decide (b > (26:Int)) then
        some true
      else
        bif decide (c < (1:Int)) then
          some true
        else
          bif decide (c > (26:Int)) then
            some true
          else
            fp b c >>= fun x2 =>
            some (sj x2) >>= fun x3 =>
            some (decide (((x3:Nat):Int) ≥ ((a:Nat):Int)))
  ) >>= fun x1 =>
  bif x1 then
    some (([]:List (List Nat)),((2:Nat):Int))
  else
    e5 ((1:Nat):Int) c >>= fun r1 =>
    fp c (1:Int) >>= fun x4 =>
    e5 x4 b >>= fun r2 =>
    pi (fun k1 (st:(List (List Nat)))=>jk a r1 r2 k1 st) (r2.length - 0) 0 ([]:List (List Nat)) >>= fun r3=>kZ r3 (fun x=>some x) fun l2 =>
    some (l2,((0:Nat):Int))
def qm (a:bv) (b:Int) (c:Int) (k1:Nat) (l1:List (List Nat)):Option (List (List Nat)) :=
  a.Rows[k1]? >>= fun x2 =>
  lg b (1:Int) >>= fun x3 =>
  ie x2 x3 >>= fun x4 =>
  ie x4 c >>= fun x5 =>
  dx 24 l1 ([x5]:List (List Nat)) >>= fun l3 =>
  some l3
def na (a:bv) (b:Int) (c:Int):Option (List (List Nat)) :=
  dO (fun k1 (st:(List (List Nat)))=>qm a b c k1 st) (a.Rows.length - 0) 0 ([]:List (List Nat)) >>= fun l2 =>
  some l2
def oQ (a:Nat) (b:Nat) (c:Nat) (d:Nat):Option Nat :=
  dC a d b >>= fun r1 =>
  some r1
def fA (a:Nat) (b:Nat) (c:Nat) (d:Nat):Option Nat :=
  oQ d a b c >>= fun r1 =>
  some r1
def bY (a:List Nat) (b:List Nat) (c:Nat) (d:Nat) (k1:Nat) (l2:List Nat):Option (List Nat) :=
  a[k1]? >>= fun x2 =>
  b[k1]? >>= fun x3 =>
  fA x2 x3 c d >>= fun r2 =>
  l2[k1]? >>= fun x4 =>
  some (l2.set k1 r2) >>= fun l4 =>
  some l4
def cg (a:List Nat) (b:List Nat) (c:Nat) (d:Nat):Option (List Nat) :=
  qA 8 ((a.length:Nat):Int) ((a.length:Nat):Int) (0:Nat) >>= fun l1 =>
  dO (fun k1 (st:(List Nat))=>bY a b c d k1 st) (a.length - 0) 0 l1 >>= fun l3 =>
  some l3
def eh (a:List Nat) (b:List Nat) (c:Nat) (d:Nat):Option (List Nat) :=
  cg a b c d >>= fun r1 =>
  some r1
def bX (a:List (List Nat)) (b:List (List Nat)) (c:Nat) (d:Nat) (k1:Nat) (l2:List (List Nat)):Option (List (List Nat)) :=
  a[k1]? >>= fun x2 =>
  b[k1]? >>= fun x3 =>
  eh x2 x3 c d >>= fun r2 =>
  l2[k1]? >>= fun x4 =>
  some (l2.set k1 r2) >>= fun l4 =>
  some l4
def ce (a:List (List Nat)) (b:List (List Nat)) (c:Nat) (d:Nat):Option (List (List Nat)) :=
  qA 24 ((a.length:Nat):Int) ((a.length:Nat):Int) (([]:List Nat):List Nat) >>= fun l1 =>
  dO (fun k1 (st:(List (List Nat)))=>bX a b c d k1 st) (a.length - 0) 0 l1 >>= fun l3 =>
  some l3
def gI (a:Nat) (b:List (List Nat)) (c:List (List Nat)) (d:Nat):Option (List (List Nat)) :=
  ce b c d a >>= fun r1 =>
  some r1
def og (a:Nat) (b:Nat) (c:List (List Nat)):Option (List (List Nat)) :=
  gI a c c b >>= fun r1 =>
  some r1
def m4 (a:Nat) (b:Nat) (c:Nat):Option Nat :=
  jD c a b >>= fun r1 =>
  some r1
def cR (a:List Nat) (b:List Nat) (c:Nat) (k1:Nat) (l2:List Nat):Option (List Nat) :=
  a[k1]? >>= fun x2 =>
  b[k1]? >>= fun x3 =>
  m4 x2 x3 c >>= fun r2 =>
  l2[k1]? >>= fun x4 =>
  some (l2.set k1 r2) >>= fun l4 =>
  some l4
def dm (a:List Nat) (b:List Nat) (c:Nat):Option (List Nat) :=
  qA 8 ((a.length:Nat):Int) ((a.length:Nat):Int) (0:Nat) >>= fun l1 =>
  dO (fun k1 (st:(List Nat))=>cR a b c k1 st) (a.length - 0) 0 l1 >>= fun l3 =>
  some l3
def mu (a:List Nat) (b:List Nat) (c:Nat):Option (List Nat) :=
  dm a b c >>= fun r1 =>
  some r1
def cQ (a:List (List Nat)) (b:List (List Nat)) (c:Nat) (k1:Nat) (l2:List (List Nat)):Option (List (List Nat)) :=
  a[k1]? >>= fun x2 =>
  b[k1]? >>= fun x3 =>
  mu x2 x3 c >>= fun r2 =>
  l2[k1]? >>= fun x4 =>
  some (l2.set k1 r2) >>= fun l4 =>
  some l4
def dj (a:List (List Nat)) (b:List (List Nat)) (c:Nat):Option (List (List Nat)) :=
  qA 24 ((a.length:Nat):Int) ((a.length:Nat):Int) (([]:List Nat):List Nat) >>= fun l1 =>
  dO (fun k1 (st:(List (List Nat)))=>cQ a b c k1 st) (a.length - 0) 0 l1 >>= fun l3 =>
  some l3
def ju (a:Nat) (b:List (List Nat)) (c:List (List Nat)):Option (List (List Nat)) :=
  dj b c a >>= fun r1 =>
  some r1
def qK (a:Nat) (b:List (List Nat)) (c:List (List Nat)):Option (List (List Nat)) :=
  ju a b c >>= fun r1 =>
  some r1
def kR (a:Nat) (b:List (List (List Nat))) (k1:Nat) (l1:List (List Nat)):Option (List (List Nat)) :=
  b[k1]? >>= fun x2 =>
  qK a l1 x2 >>= fun r2 =>
  some r2
def kG (a:Nat) (b:List (List Nat)) (c:List (List (List Nat))):Option (List (List Nat)) :=
  dO (fun k1 (st:(List (List Nat)))=>kR a c k1 st) (c.length - 0) 0 b >>= fun l2 =>
  some l2
def gr (k1:Nat) (x3:Int) (r5:(List Nat) × Int × Int) (k2:Nat) (l7:List (List (List Nat))):Option (List (List (List Nat))) :=
  l7[k1]? >>= fun x7 =>
  nC ((k2:Nat):Int) x3 >>= fun x8 =>
  fp ((k2:Nat):Int) (1:Int) >>= fun x9 =>
  nC x9 x3 >>= fun x10 =>
  p7 r5.1 x8 x10 >>= fun l9 =>
  dx 24 x7 ([l9]:List (List Nat)) >>= fun l10 =>
  some (l7.set k1 l10) >>= fun l11 =>
  some l11
def cM (a:au) (r1:ab) (r2:Int) (k1:Nat) (l2:List aA) (l3:List (List (List Nat))):Option ((List aA) × (List (List (List Nat)))) :=
  fp ((k1:Nat):Int) (1:Int) >>= fun x2 =>
  fH (⟨a.zw,a.ah,a.av,l2⟩:au) x2 >>= fun r4 =>
  fp r1.S.T (1:Int) >>= fun x3 =>
  nC r2 x3 >>= fun x4 =>
  l2[r4]? >>= fun x5 =>
  kj x5 x4 >>= fun r5 =>
  some (l2.set r4 (⟨x5.gY,r5.2.2⟩:aA)) >>= fun l6 =>
  oT (max 0 (r2).toNat) >>= fun u1 =>
  dO (fun k2 (st:(List (List (List Nat))))=>gr k1 x3 r5 k2 st) ((max 0 (r2).toNat) - 0) 0 l3 >>= fun l8 =>
  some (l6,l8)
def gu (r1:ab) (r7:bv × Int × (List (List ao)) × (List aA)) (k3:Nat) (x14:List Nat) (k5:Nat) (l16:List (List (List Nat))):Option (List (List (List Nat))) :=
  x14[k5]? >>= fun x16 =>
  fp ((k5:Nat):Int) (1:Int) >>= fun x17 =>
  na r7.1 x17 ((k3:Nat):Int) >>= fun r12 =>
  og r1.S.P x16 r12 >>= fun r13 =>
  dx 24 l16 ([r13]:List (List (List Nat))) >>= fun l18 =>
  some l18
def eD (r1:ab) (r7:bv × Int × (List (List ao)) × (List aA)) (r8:(List (List Nat)) × Int) (k3:Nat) (k4:Nat) (l14:List (List (List Nat))):Option (List (List (List Nat))) :=
  r8.1[k4]? >>= fun x14 =>
  dO (fun k5 (st:(List (List (List Nat))))=>gu r1 r7 k3 x14 k5 st) (x14.length - 0) 0 ([]:List (List (List Nat))) >>= fun l17 =>
  l17[0]? >>= fun x18 =>
  p7 l17 (1:Int) ((l17.length:Nat):Int) >>= fun l19 =>
  kG r1.S.P x18 l19 >>= fun r14 =>
  dx 24 l14 ([r14]:List (List (List Nat))) >>= fun l20 =>
  some l20
def gt (r1:ab) (r7:bv × Int × (List (List ao)) × (List aA)) (r8:(List (List Nat)) × Int) (k3:Nat) (l12:List (List (List Nat))):Option (List (List (List Nat))) :=
  dO (fun k4 (st:(List (List (List Nat))))=>eD r1 r7 r8 k3 k4 st) (r8.1.length - 0) 0 l12 >>= fun l15 =>
  some l15
def dt (a:au) (b:Int):Option ((List (List (List Nat))) × Int × (List (List ao)) × (List aA)) :=
  bif b == (0:Int) then
    some (([]:List (List (List Nat))),a.ah,a.av,a.ap)
  else
    bQ a >>= fun r1 =>
    gW r1.S b >>= fun r2 =>
    qA 24 r1.S.N r1.S.N ([]:List (List Nat)) >>= fun l1 =>
    dO (fun k1 (st:(List aA) × (List (List (List Nat))))=>cM a r1 r2 k1 st.1 st.2) (l1.length - 0) 0 (a.ap,l1) >>= fun (l4,l5) =>
    sk (⟨a.zw,a.ah,a.av,l4⟩:au) l5 >>= fun r7 =>
    lg r1.S.N r1.S.T >>= fun x11 =>
    dZ r1.S.P x11 r1.S.N >>= fun r8 =>
    oT (max 0 (r2).toNat) >>= fun u2 =>
    dO (fun k3 (st:(List (List (List Nat))))=>gt r1 r7 r8 k3 st) ((max 0 (r2).toNat) - 0) 0 ([]:List (List (List Nat))) >>= fun l13 =>
    p7 l13 (0:Int) b >>= fun l21 =>
    some (l21,r7.2.1,r7.2.2.1,r7.2.2.2)
def kL (a:au):Option ((List (List (List Nat))) × Int) :=
  some (([]:List (List (List Nat))),((0:Nat):Int))
def fK (a:List Nat) (b:Nat) (k1:Nat):Option (Out Unit Int) :=
  a[k1]? >>= fun x1 =>
  bif ((b:Nat):Int) == ((x1:Nat):Int) then
    some (.fin ((k1:Nat):Int))
  else
    some (.go ())
def gJ (a:List Nat) (b:Nat):Option Int :=
  pi (fun k1 (st:Unit)=>fK a b k1) (a.length - 0) 0 () >>= fun r1=>kZ r1 (fun x=>some x) fun _ =>
  some (-1)
def dS (a:List Nat) (b:Nat):Option Bool :=
  gJ a b >>= fun r1 =>
  some (decide (r1 ≥ (0:Int)))
def mV (a:Int) (b:List Nat) (c:List (List Nat)) (k1:Nat):Option (Out Unit Bool) :=
  b[k1]? >>= fun x3 =>
  p7 b (0:Int) ((k1:Nat):Int) >>= fun l1 =>
  dS l1 x3 >>= fun r2 =>
  bif r2 then
    some (.fin false)
  else
    c[k1]? >>= fun x4 =>
    fp a (1:Int) >>= fun x5 =>
    bif ((x4.length:Nat):Int) != x5 then
      some (.fin false)
    else
      some (.go ())
def m9 (a:Int) (b:List Nat) (c:List (List Nat)):Option Bool :=
  (
    bif decide (a < (0:Int)) then
      some true
    else
      bif ((b.length:Nat):Int) != ((c.length:Nat):Int) then
        some true
      else
        fp a (1:Int) >>= fun x2 =>
        some (decide (((c.length:Nat):Int) < x2))
  ) >>= fun x1 =>
  bif x1 then
    some false
  else
    pi (fun k1 (st:Unit)=>mV a b c k1) (b.length - 0) 0 () >>= fun r1=>kZ r1 (fun x=>some x) fun _ =>
    some true
def nX (a:Int) (l1:List Nat):Option (Out (List Nat) (List Nat)) :=
  bif decide (((l1.length:Nat):Int)≤a) then
    dx 8 l1 ([0]:List Nat) >>= fun l4 =>
    some (.go l4)
  else
    some (.fin l1)
def fN (a:oq) (b:Int) (c:Nat):Option (List Nat) :=
  sS (fun (st:(List Nat))=>nX b st) big a.zf >>= fun l3 =>
  ie l3 b >>= fun x1 =>
  jD a.zp x1 c >>= fun r2 =>
  some (l3.set b.toNat r2) >>= fun l5 =>
  some l5
def oP (a:List Nat) (x2:Int):Option (Out Int (Int ⊕ Unit)) :=
  bif decide (x2 ≥ (0:Int)) then
    ie a x2 >>= fun x3 =>
    bif ((x3:Nat):Int) != (0:Int) then
      some (.fin (.inl x2))
    else
      lg x2 (1:Int) >>= fun x4 =>
      some (.go x4)
  else
    some (.fin (.inr ()))
def pe (a:List Nat):Option Int :=
  lg ((a.length:Nat):Int) (1:Int) >>= fun x1 =>
  sS (fun (st:Int)=>oP a st) big x1 >>= fun r1=>B7 r1 (fun x=>some x) fun _ =>
  some (-1)
def lF (a:List Nat):Option (List Nat) :=
  pe a >>= fun r1 =>
  fp r1 (1:Int) >>= fun x1 =>
  p7 a (0:Int) x1 >>= fun l1 =>
  dx 8 ([]:List Nat) l1 >>= fun l2 =>
  some l2
def rH (a:Nat) (b:List Nat) (k1:Nat) (x2:Nat) (k2:Nat) (l3:List Nat):Option (List Nat) :=
  b[k2]? >>= fun x4 =>
  fp ((k1:Nat):Int) ((k2:Nat):Int) >>= fun x5 =>
  dC a x2 x4 >>= fun r3 =>
  fN (⟨a,l3⟩:oq) x5 r3 >>= fun r4 =>
  some r4
def rG (a:Nat) (b:List Nat) (c:List Nat) (k1:Nat) (l1:List Nat):Option (List Nat) :=
  b[k1]? >>= fun x2 =>
  dO (fun k2 (st:(List Nat))=>rH a c k1 x2 k2 st) (c.length - 0) 0 l1 >>= fun l4 =>
  some l4
def tA (a:Nat) (b:List Nat) (c:List Nat):Option (List Nat) :=
  dO (fun k1 (st:(List Nat))=>rG a b c k1 st) (b.length - 0) 0 ([]:List Nat) >>= fun l2 =>
  lF l2 >>= fun r5 =>
  some r5
def iE (a:Nat) (b:Nat) (c:List Nat) (d:Nat) (e:bP):Option ((List Nat) × Nat) :=
  mX b a >>= fun r1 =>
  tA b c ([r1,1]:List Nat) >>= fun r2 =>
  lD b e.X a >>= fun r3 =>
  dC b d r3 >>= fun r4 =>
  some (r2,r4)
def bK (a:List Nat) (b:Int) (c:Nat) (d:bP) (k1:Nat) (l1:List Nat) (x1:Nat):Option ((List Nat) × Nat) :=
  a[k1]? >>= fun x4 =>
  bif ((k1:Nat):Int) != b then
    iE x4 c l1 x1 d >>= fun r2 =>
    some (r2.1,r2.2)
  else
    some (l1,x1)
def cz (a:List Nat) (b:Int) (c:Nat) (d:List Nat) (e:Nat) (f:bP):Option ((List Nat) × Nat) :=
  dO (fun k1 (st:(List Nat) × Nat)=>bK a b c f k1 st.1 st.2) (a.length - 0) 0 (d,e) >>= fun (l2,x3) =>
  some (l2,x3)
def pK (a:Nat) (b:Nat) (c:List Nat) (k1:Nat) (l2:List Nat):Option (List Nat) :=
  c[k1]? >>= fun x2 =>
  dC a b x2 >>= fun r2 =>
  l2[k1]? >>= fun x3 =>
  some (l2.set k1 r2) >>= fun l4 =>
  some l4
def qH (a:Nat) (b:Nat) (c:List Nat):Option (List Nat) :=
  qA 8 ((c.length:Nat):Int) ((c.length:Nat):Int) (0:Nat) >>= fun l1 =>
  dO (fun k1 (st:(List Nat))=>pK a b c k1 st) (c.length - 0) 0 l1 >>= fun l3 =>
  lF l3 >>= fun r3 =>
  some r3
def rE (a:Nat) (b:List Nat) (k1:Nat) (l1:List Nat):Option (List Nat) :=
  b[k1]? >>= fun x2 =>
  fN (⟨a,l1⟩:oq) ((k1:Nat):Int) x2 >>= fun r2 =>
  some r2
def rF (a:Nat) (b:List Nat) (k2:Nat) (l3:List Nat):Option (List Nat) :=
  b[k2]? >>= fun x4 =>
  fN (⟨a,l3⟩:oq) ((k2:Nat):Int) x4 >>= fun r4 =>
  some r4
def tz (a:Nat) (b:List Nat) (c:List Nat):Option (List Nat) :=
  dO (fun k1 (st:(List Nat))=>rE a b k1 st) (b.length - 0) 0 ([]:List Nat) >>= fun l2 =>
  dO (fun k2 (st:(List Nat))=>rF a c k2 st) (c.length - 0) 0 l2 >>= fun l4 =>
  lF l4 >>= fun r5 =>
  some r5
def ia (a:List bP) (k1:Nat) (l1:List Nat):Option (List Nat) :=
  a[k1]? >>= fun x2 =>
  dx 8 l1 ([x2.X]:List Nat) >>= fun l3 =>
  some l3
def ic (a:Nat) (b:List bP) (l2:List Nat) (k2:Nat) (l4:List Nat):Option (List Nat) :=
  b[k2]? >>= fun x4 =>
  cz l2 ((k2:Nat):Int) a ([1]:List Nat) 1 x4 >>= fun r4 =>
  iZ a x4.Y r4.2 >>= fun r5 =>
  qH a r5 r4.1 >>= fun r6 =>
  tz a l4 r6 >>= fun r7 =>
  some r7
def gF (a:Nat) (b:List bP):Option ((List Nat) × Int) :=
  dO (fun k1 (st:(List Nat))=>ia b k1 st) (b.length - 0) 0 ([]:List Nat) >>= fun l2 =>
  eI l2 >>= fun r2 =>
  bif !r2 then
    some (([]:List Nat),((1:Nat):Int))
  else
    dO (fun k2 (st:(List Nat))=>ic a b l2 k2 st) (b.length - 0) 0 ([]:List Nat) >>= fun l5 =>
    lF l5 >>= fun r8 =>
    some (r8,((0:Nat):Int))
def nY (a:List Nat) (b:List (List Nat)) (c:Int) (k1:Nat) (l1:List bP):Option (List bP) :=
  a[k1]? >>= fun x3 =>
  b[k1]? >>= fun x4 =>
  ie x4 c >>= fun x5 =>
  dx 16 l1 ([(⟨x3,x5⟩:bP)]:List bP) >>= fun l3 =>
  some l3
def iY (a:Nat) (b:Int) (c:List Nat) (d:List (List Nat)) (e:Int):Option ((List Nat) × Int) :=
  fp b (1:Int) >>= fun x1 =>
  oT (max 0 (x1).toNat) >>= fun u1 =>
  dO (fun k1 (st:(List bP))=>nY c d e k1 st) ((max 0 (x1).toNat) - 0) 0 ([]:List bP) >>= fun l2 =>
  gF a l2 >>= fun r2 =>
  qA 8 x1 x1 (0:Nat) >>= fun l4 =>
  some (sE l4 r2.1,r2.2)
def iA (a:List (List Nat)) (k1:Nat):Option (Out Unit Bool) :=
  a[k1]? >>= fun x1 =>
  bif ((x1.length:Nat):Int) != ((a.length:Nat):Int) then
    some (.fin false)
  else
    some (.go ())
def iC (a:List (List Nat)) (k2:Nat) (x2:List Nat) (k3:Nat):Option (Out Unit Bool) :=
  x2[k3]? >>= fun x3 =>
  a[k3]? >>= fun x4 =>
  x4[k2]? >>= fun x5 =>
  bif ((x3:Nat):Int) != ((x5:Nat):Int) then
    some (.fin false)
  else
    some (.go ())
def iB (a:List (List Nat)) (k2:Nat):Option (Out Unit Bool) :=
  a[k2]? >>= fun x2 =>
  oT k2 >>= fun u1 =>
  pi (fun k3 (st:Unit)=>iC a k2 x2 k3) (k2 - 0) 0 () >>= fun r3=>kZ r3 (fun x=>some (.fin x)) fun _ =>
  some (.go ())
def gZ (a:List (List Nat)):Option Bool :=
  pi (fun k1 (st:Unit)=>iA a k1) (a.length - 0) 0 () >>= fun r1=>kZ r1 (fun x=>some x) fun _ =>
  pi (fun k2 (st:Unit)=>iB a k2) (a.length - 0) 0 () >>= fun r2=>kZ r2 (fun x=>some x) fun _ =>
  some (decide (((a.length:Nat):Int) > (0:Int)))
def fJ (a:List Nat) (b:List Nat) (k1:Nat):Option (Out Unit Bool) :=
  a[k1]? >>= fun x1 =>
  b[k1]? >>= fun x2 =>
  bif ((x1:Nat):Int) != ((x2:Nat):Int) then
    some (.fin false)
  else
    some (.go ())
def eW (a:List Nat) (b:List Nat):Option Bool :=
  bif ((a.length:Nat):Int) != ((b.length:Nat):Int) then
    some false
  else
    pi (fun k1 (st:Unit)=>fJ a b k1) (a.length - 0) 0 () >>= fun r1=>kZ r1 (fun x=>some x) fun _ =>
    some true
def iw (r3:(List Nat) × Int) (k2:Nat) (l5:List (List Nat)):Option (List (List Nat)) :=
  l5[k2]? >>= fun x4 =>
  r3.1[k2]? >>= fun x5 =>
  dx 8 x4 ([x5]:List Nat) >>= fun l7 =>
  some (l5.set k2 l7) >>= fun l8 =>
  some l8
def iv (a:Nat) (b:Int) (c:List Nat) (d:List (List Nat)) (k1:Nat) (l2:List (List Nat)):Option (Out (List (List Nat)) ((List (List Nat)) × Int)) :=
  iY a b c d ((k1:Nat):Int) >>= fun r3 =>
  bif r3.2 != (0:Int) then
    some (.fin (([]:List (List Nat)),((6:Nat):Int)))
  else
    dO (fun k2 (st:(List (List Nat)))=>iw r3 k2 st) (l2.length - 0) 0 l2 >>= fun l6 =>
    some (.go l6)
def iy (a:Nat) (b:List Nat) (c:List (List Nat)) (l3:List (List Nat)) (k3:Nat):Option (Out Unit ((List (List Nat)) × Int)) :=
  b[k3]? >>= fun x6 =>
  eY a l3 x6 >>= fun r7 =>
  c[k3]? >>= fun x7 =>
  eW r7 x7 >>= fun r8 =>
  bif !r8 then
    some (.fin (([]:List (List Nat)),((6:Nat):Int)))
  else
    some (.go ())
def fB (a:Nat) (b:Int) (c:List Nat) (d:List (List Nat)):Option ((List (List Nat)) × Int) :=
  m9 b c d >>= fun r1 =>
  bif !r1 then
    some (([]:List (List Nat)),((1:Nat):Int))
  else
    fp b (1:Int) >>= fun x1 =>
    qA 24 x1 x1 ([]:List Nat) >>= fun l1 =>
    pi (fun k1 (st:(List (List Nat)))=>iv a b c d k1 st) (l1.length - 0) 0 l1 >>= fun r2=>kZ r2 (fun x=>some x) fun l3 =>
    gZ l3 >>= fun r5 =>
    bif !r5 then
      some (([]:List (List Nat)),((6:Nat):Int))
    else
      pi (fun k3 (st:Unit)=>iy a c d l3 k3) (c.length - 0) 0 () >>= fun r6=>kZ r6 (fun x=>some x) fun _ =>
      some (l3,((0:Nat):Int))
def jr (a:aL) (b:Int):Option Int :=
  gW a b >>= fun r1 =>
  fp a.T (1:Int) >>= fun x1 =>
  nC a.T x1 >>= fun x2 =>
  vo x2 (2:Int) >>= fun x3 =>
  fp x1 x3 >>= fun x4 =>
  nC r1 x4 >>= fun x5 =>
  some x5
def ly (a:au):Option Int :=
  some a.ah
def lz  : Option Bool :=
  nE >>= fun r1 =>
  nD r1 >>= fun r2 =>
  Ec r2 (fun r3 =>
    some false)
  (fun r4 =>
    dt r4 ((3:Nat):Int) >>= fun r5 =>
    (
      bif ((r5.1.length:Nat):Int) != (3:Int) then
        some true
      else
        r5.1[0]? >>= fun x2 =>
        some (((x2.length:Nat):Int) != (4:Int))
    ) >>= fun x1 =>
    bif x1 then
      some false
    else
      kL r4 >>= fun r6 =>
      r5.1[0]? >>= fun x3 =>
      fB 31 ((1:Nat):Int) ([1,2,3,4]:List Nat) x3 >>= fun r7 =>
      jr (⟨31,((4:Nat):Int),((1:Nat):Int)⟩:aL) ((0:Nat):Int) >>= fun r8 =>
      bif r8 == (0:Int) then
        jr (⟨31,((4:Nat):Int),((1:Nat):Int)⟩:aL) ((3:Nat):Int) >>= fun r9 =>
        bif r9 == (3:Int) then
          jr (⟨31,((4:Nat):Int),((1:Nat):Int)⟩:aL) ((4:Nat):Int) >>= fun r10 =>
          bif r10 == (6:Int) then
            fH (⟨r4.zw,r5.2.1,r5.2.2.1,r5.2.2.2⟩:au) ((1:Nat):Int) >>= fun r11 =>
            r5.2.2.2[r11]? >>= fun x4 =>
            iW x4 >>= fun r12 =>
            bif r12 == (0:Int) then
              ly (⟨r4.zw,r5.2.1,r5.2.2.1,r5.2.2.2⟩:au) >>= fun r13 =>
              bif r13 == (7:Int) then
                dt r4 ((0:Nat):Int) >>= fun r14 =>
                bif ((r14.1.length:Nat):Int) == (0:Int) then
                  ly (⟨r4.zw,r14.2.1,r14.2.2.1,r14.2.2.2⟩:au) >>= fun r15 =>
                  bif r15 == (0:Int) then
                    bif ((r6.1.length:Nat):Int) == (0:Int) then
                      bif r6.2 == (0:Int) then
                        some (r7.2 == (0:Int))
                      else
                        some false
                    else
                      some false
                  else
                    some false
                else
                  some false
              else
                some false
            else
              some false
          else
            some false
        else
          some false
      else
        some false)
def lV  : Option (List Int) :=
  some ([((5:Nat):Int),((7:Nat):Int),((13:Nat):Int),((17:Nat):Int),((19:Nat):Int),((31:Nat):Int),((61:Nat):Int)]:List Int)
def fO (a:Nat) (r1:(List Int)) (k1:Nat):Option (Out Unit Int) :=
  r1[k1]? >>= fun x1 =>
  some (sj x1) >>= fun x2 =>
  zT 1 ((x2:Nat):Int) >>= fun x3 =>
  some (wj x3 1) >>= fun x4 =>
  bif ((a:Nat):Int) == ((x4:Nat):Int) then
    some (.fin x1)
  else
    some (.go ())
def jJ (a:Nat):Option Int :=
  lV >>= fun r1 =>
  pi (fun k1 (st:Unit)=>fO a r1 k1) (r1.length - 0) 0 () >>= fun r2=>kZ r2 (fun x=>some x) fun _ =>
  some ((0:Nat):Int)
def gG (a:Nat):Option Bool :=
  jJ a >>= fun r1 =>
  some (decide (r1 > (0:Int)))
def gV (a:aL):Option Bool :=
  gG a.P >>= fun r1 =>
  bif r1 then
    bif decide (a.N ≥ (4:Int)) then
      bif decide (a.N≤(13:Int)) then
        some (sj a.N) >>= fun x1 =>
        bif decide (((x1:Nat):Int) < ((a.P:Nat):Int)) then
          bif decide (a.T ≥ (1:Int)) then
            bif decide (a.T < a.N) then
              nC (3:Int) a.T >>= fun x2 =>
              some (decide (x2 < a.N))
            else
              some false
          else
            some false
        else
          some false
      else
        some false
    else
      some false
  else
    some false
def fI (a:aL) (b:List Int) (k1:Nat):Option (Out Unit Bool) :=
  b[k1]? >>= fun x2 =>
  bif decide (x2 < (1:Int)) then
    some (.fin false)
  else
    bif decide (x2 > a.N) then
      some (.fin false)
    else
      bif decide (((k1:Nat):Int) > (0:Int)) then
        lg ((k1:Nat):Int) (1:Int) >>= fun x3 =>
        ie b x3 >>= fun x4 =>
        bif decide (x2≤x4) then
          some (.fin false)
        else
          some (.go ())
      else
        some (.go ())
def eV (a:aL) (b:List Int):Option Bool :=
  (
    gV a >>= fun r1 =>
    bif !r1 then
      some true
    else
      some (decide (((b.length:Nat):Int) > a.T))
  ) >>= fun x1 =>
  bif x1 then
    some false
  else
    pi (fun k1 (st:Unit)=>fI a b k1) (b.length - 0) 0 () >>= fun r2=>kZ r2 (fun x=>some x) fun _ =>
    some true
def gH (a:aL) (b:aS):Option Bool :=
  bif decide (b.Round ≥ (0:Int)) then
    bif decide (b.At ≥ (0:Int)) then
      bif decide (b.bm ≥ (0:Int)) then
        bif decide (b.From ≥ (1:Int)) then
          bif decide (b.From≤a.N) then
            bif decide (b.To ≥ (0:Int)) then
              bif decide (b.To≤a.N) then
                bif decide (b.Kind ≥ (1:Int)) then
                  bif decide (b.Kind≤(4:Int)) then
                    bif decide (b.Of ≥ (0:Int)) then
                      bif decide (b.Of≤a.N) then
                        bif b.Kind != (3:Int) then
                          some true
                        else
                          some (decide (b.Of ≥ (1:Int)))
                      else
                        some false
                    else
                      some false
                  else
                    some false
                else
                  some false
              else
                some false
            else
              some false
          else
            some false
        else
          some false
      else
        some false
    else
      some false
  else
    some false
def jK (a:Nat) (b:List Nat) (k1:Nat):Option (Out Unit Bool) :=
  b[k1]? >>= fun x1 =>
  bif decide (((x1:Nat):Int) ≥ ((a:Nat):Int)) then
    some (.fin false)
  else
    some (.go ())
def jo (a:Nat) (b:List Nat):Option Bool :=
  pi (fun k1 (st:Unit)=>jK a b k1) (b.length - 0) 0 () >>= fun r1=>kZ r1 (fun x=>some x) fun _ =>
  some true
def fS (a:ab) (k1:Nat):Option (Out Unit Bool) :=
  a.aa[k1]? >>= fun x2 =>
  gH a.S x2 >>= fun r4 =>
  bif !r4 then
    some (.fin false)
  else
    some (.go ())
def fT (a:ab) (k2:Nat):Option (Out Unit Bool) :=
  a.ax[k2]? >>= fun x3 =>
  jo a.S.P x3 >>= fun r6 =>
  bif !r6 then
    some (.fin false)
  else
    some (.go ())
def dc (a:ab):Option Bool :=
  (
    gV a.S >>= fun r1 =>
    bif !r1 then
      some true
    else
      eV a.S a.af >>= fun r2 =>
      bif !r2 then
        some true
      else
        some (((a.ax.length:Nat):Int) != a.S.N)
  ) >>= fun x1 =>
  bif x1 then
    some false
  else
    pi (fun k1 (st:Unit)=>fS a k1) (a.aa.length - 0) 0 () >>= fun r3=>kZ r3 (fun x=>some x) fun _ =>
    pi (fun k2 (st:Unit)=>fT a k2) (a.ax.length - 0) 0 () >>= fun r5=>kZ r5 (fun x=>some x) fun _ =>
    some true
def ki (a:ab) (b:Int) (k1:Nat):Option (Out Unit Bool) :=
  a.ax[k1]? >>= fun x2 =>
  bif decide (((x2.length:Nat):Int) > b) then
    some (.fin false)
  else
    some (.go ())
def jV (a:ab) (b:Int) (c:Int):Option Bool :=
  (
    bif decide (((a.aa.length:Nat):Int) > b) then
      some true
    else
      bif decide (((a.ax.length:Nat):Int) > (13:Int)) then
        some true
      else
        some (decide (((a.af.length:Nat):Int) > (13:Int)))
  ) >>= fun x1 =>
  bif x1 then
    some false
  else
    pi (fun k1 (st:Unit)=>ki a c k1) (a.ax.length - 0) 0 () >>= fun r1=>kZ r1 (fun x=>some x) fun _ =>
    dc a >>= fun r2 =>
    some r2
def i9 (a:aL) (b:Int) (x1:Int):Option (Out Int Int) :=
  lg a.N a.T >>= fun x4 =>
  nC x1 x4 >>= fun x5 =>
  bif decide (x5 < b) then
    fp x1 (1:Int) >>= fun x6 =>
    some (.go x6)
  else
    some (.fin x1)
def il (a:aL) (b:Int):Option Int :=
  sS (fun (st:Int)=>i9 a b st) big ((0:Nat):Int) >>= fun x3 =>
  some x3
def lW (a:Int):Option Int :=
  fp a (1:Int) >>= fun x1 =>
  nC a x1 >>= fun x2 =>
  vo x2 (2:Int) >>= fun x3 =>
  some x3
def im (a:aL) (b:Int):Option Int :=
  il a b >>= fun r1 =>
  fp a.T (1:Int) >>= fun x1 =>
  lW a.T >>= fun r2 =>
  fp x1 r2 >>= fun x2 =>
  nC r1 x2 >>= fun x3 =>
  some x3
def kg (a:ab) (b:Int) (k1:Nat):Option (Out Unit Bool) :=
  a.ax[k1]? >>= fun x2 =>
  im a.S b >>= fun r3 =>
  bif decide (((x2.length:Nat):Int) < r3) then
    some (.fin false)
  else
    some (.go ())
def jU (a:ab) (b:Int) (c:Int):Option Bool :=
  (
    jV a ((8:Nat):Int) ((100:Nat):Int) >>= fun r1 =>
    bif !r1 then
      some true
    else
      bif decide (b < (0:Int)) then
        some true
      else
        bif decide (b > c) then
          some true
        else
          some (decide (a.S.N > (7:Int)))
  ) >>= fun x1 =>
  bif x1 then
    some false
  else
    pi (fun k1 (st:Unit)=>kg a b k1) (a.ax.length - 0) 0 () >>= fun r2=>kZ r2 (fun x=>some x) fun _ =>
    some true
def jL (a:Nat) (b:List Nat) (c:Int) (x1:Int):Option (Out Int (Bool ⊕ Unit)) :=
  (
    bif decide (x1 < ((b.length:Nat):Int)) then
      some (decide (x1≤c))
    else
      some false
  ) >>= fun x2 =>
  bif x2 then
    ie b x1 >>= fun x3 =>
    bif decide (((x3:Nat):Int) ≥ ((a:Nat):Int)) then
      some (.fin (.inl false))
    else
      fp x1 (1:Int) >>= fun x4 =>
      some (.go x4)
  else
    some (.fin (.inr ()))
def jp (a:Nat) (b:List Nat) (c:Int):Option Bool :=
  sS (fun (st:Int)=>jL a b c st) big ((0:Nat):Int) >>= fun r1=>B7 r1 (fun x=>some x) fun _ =>
  some (decide (((b.length:Nat):Int)≤c))
def jq (a:ab) (b:Int) (k1:Nat):Option (Out Unit Bool) :=
  a.af[k1]? >>= fun x1 =>
  bif x1 == b then
    some (.fin false)
  else
    some (.go ())
def fo (a:ab) (b:Int):Option Bool :=
  pi (fun k1 (st:Unit)=>jq a b k1) (a.af.length - 0) 0 () >>= fun r1=>kZ r1 (fun x=>some x) fun _ =>
  some true
def pJ (a:List Nat) (b:List (List Nat)):Option Bool :=
  b[0]? >>= fun x1 =>
  some (((a.length:Nat):Int) != ((x1.length:Nat):Int))
def cH (a:List (List Nat)) (b:List (List Nat)) (k1:Nat):Option (Out Unit Int) :=
  a[k1]? >>= fun x1 =>
  pJ x1 b >>= fun r2 =>
  bif r2 then
    some (.fin ((k1:Nat):Int))
  else
    some (.go ())
def cO (a:List (List Nat)) (b:List (List Nat)):Option Int :=
  pi (fun k1 (st:Unit)=>cH a b k1) (a.length - 0) 0 () >>= fun r1=>kZ r1 (fun x=>some x) fun _ =>
  some (-1)
def cG (a:List (List Nat)) (b:List (List Nat)):Option Bool :=
  cO a b >>= fun r1 =>
  some (decide (r1 ≥ (0:Int)))
def o9 (a:List (List Nat)):Option Bool :=
  cG a a >>= fun r1 =>
  some (!r1)
def o8 (a:List (List Nat)):Option Int :=
  bif ((a.length:Nat):Int) == (0:Int) then
    some ((0:Nat):Int)
  else
    a[0]? >>= fun x1 =>
    some ((x1.length:Nat):Int)
def mZ (k1:Nat) (l1:List (List Nat)):Option (List (List Nat)) :=
  l1[k1]? >>= fun x2 =>
  cc x2 >>= fun r3 =>
  some (l1.set k1 r3) >>= fun l3 =>
  some l3
def gR (l4:List (List Nat)) (k2:Nat) (x6:Int) (x7:Int):Option (Out (Int × Int) Int) :=
  (
    bif decide (x7 < ((l4.length:Nat):Int)) then
      some (decide (x6 < (0:Int)))
    else
      some false
  ) >>= fun x10 =>
  bif x10 then
    ie l4 x7 >>= fun x11 =>
    x11[k2]? >>= fun x12 =>
    bif ((x12:Nat):Int) != (0:Int) then
      fp x7 (1:Int) >>= fun x13 =>
      some (.go (x7,x13))
    else
      fp x7 (1:Int) >>= fun x14 =>
      some (.go (x6,x14))
  else
    some (.fin x6)
def kB (a:Nat) (l5:List Int) (x18:List Nat) (r8:Nat × Int) (k3:Nat) (l10:List (List Nat)):Option (List (List Nat)) :=
  x18[k3]? >>= fun x21 =>
  l10[l5.length]? >>= fun x22 =>
  x22[k3]? >>= fun x23 =>
  dC a r8.1 x23 >>= fun r10 =>
  some (x22.set k3 r10) >>= fun l12 =>
  some (l10.set l5.length l12) >>= fun l13 =>
  some l13
def kD (a:Nat) (l5:List Int) (k4:Nat) (x25:List Nat) (x28:Nat) (x29:List Nat) (k5:Nat) (l16:List (List Nat)):Option (List (List Nat)) :=
  x29[k5]? >>= fun x31 =>
  l16[l5.length]? >>= fun x32 =>
  x32[k5]? >>= fun x33 =>
  x25[k5]? >>= fun x34 =>
  l16[k4]? >>= fun x35 =>
  x35[k5]? >>= fun x36 =>
  dC a x28 x33 >>= fun r13 =>
  lD a x36 r13 >>= fun r14 =>
  some (x35.set k5 r14) >>= fun l18 =>
  some (l16.set k4 l18) >>= fun l19 =>
  some l19
def kC (a:Nat) (l5:List Int) (k2:Nat) (k4:Nat) (l14:List (List Nat)):Option (List (List Nat)) :=
  l14[k4]? >>= fun x25 =>
  (
    bif ((k4:Nat):Int) == ((l5.length:Nat):Int) then
      some true
    else
      x25[k2]? >>= fun x27 =>
      some (((x27:Nat):Int) == (0:Int))
  ) >>= fun x26 =>
  bif x26 then
    some l14
  else
    x25[k2]? >>= fun x28 =>
    l14[l5.length]? >>= fun x29 =>
    oT x29.length >>= fun u4 =>
    dO (fun k5 (st:(List (List Nat)))=>kD a l5 k4 x25 x28 x29 k5 st) (x29.length - 0) 0 l14 >>= fun l17 =>
    some l17
def gQ (a:Nat) (k2:Nat) (l4:List (List Nat)) (l5:List Int) (x3:Nat):Option ((List (List Nat)) × (List Int) × Nat) :=
  sS (fun (st:Int × Int)=>gR l4 k2 st.1 st.2) big ((-1),((l5.length:Nat):Int)) >>= fun x9 =>
  bif decide (x9 < (0:Int)) then
    some (l4,l5,x3)
  else
    (
      bif x9 != ((l5.length:Nat):Int) then
        l4[l5.length]? >>= fun x16 =>
        ie l4 x9 >>= fun x17 =>
        some ((l4.set x9.toNat x16).set l5.length x17) >>= fun l9 =>
        mX a x3 >>= fun r6 =>
        some (l9,r6)
      else
        some (l4,x3)
    ) >>= fun (l8,x15) =>
    l8[l5.length]? >>= fun x18 =>
    x18[k2]? >>= fun x19 =>
    dC a x15 x19 >>= fun r7 =>
    kV a x19 >>= fun r8 =>
    oT x18.length >>= fun u3 =>
    dO (fun k3 (st:(List (List Nat)))=>kB a l5 x18 r8 k3 st) (x18.length - 0) 0 l8 >>= fun l11 =>
    dO (fun k4 (st:(List (List Nat)))=>kC a l5 k2 k4 st) (l11.length - 0) 0 l11 >>= fun l15 =>
    dx 8 l5 ([((k2:Nat):Int)]:List Int) >>= fun l20 =>
    some (l15,l20,r7)
def kY (a:Nat) (b:List (List Nat)) (c:Int):Option ll :=
  bU b >>= fun r1 =>
  oT r1.length >>= fun u1 =>
  dO (fun k1 (st:(List (List Nat)))=>mZ k1 st) (r1.length - 0) 0 r1 >>= fun l2 =>
  oT (max 0 (c).toNat) >>= fun u2 =>
  dO (fun k2 (st:(List (List Nat)) × (List Int) × Nat)=>gQ a k2 st.1 st.2.1 st.2.2) ((max 0 (c).toNat) - 0) 0 (l2,([]:List Int),1) >>= fun (l6,l7,x5) =>
  some (⟨a,l6,l7,x5⟩:ll)
def lr (a:List (List Nat)) (b:List Nat) (k1:Nat) (l1:List (List Nat)):Option (List (List Nat)) :=
  a[k1]? >>= fun x3 =>
  cc x3 >>= fun r4 =>
  b[k1]? >>= fun x4 =>
  dx 8 r4 ([x4]:List Nat) >>= fun l3 =>
  dx 24 l1 ([l3]:List (List Nat)) >>= fun l4 =>
  some l4
def nU (r2:Int) (l5:List (List Nat)) (k2:Nat):Option (Out Unit ((List Nat) × Int)) :=
  l5[k2]? >>= fun x5 =>
  ie x5 r2 >>= fun x6 =>
  bif ((x6:Nat):Int) != (0:Int) then
    some (.fin (([]:List Nat),((6:Nat):Int)))
  else
    some (.go ())
def nW (r2:Int) (r5:ll) (k3:Nat) (l7:List Nat):Option (List Nat) :=
  r5.zpivot[k3]? >>= fun x8 =>
  r5.zm[k3]? >>= fun x9 =>
  ie x9 r2 >>= fun x10 =>
  ie l7 x8 >>= fun x11 =>
  some (l7.set x8.toNat x10) >>= fun l9 =>
  some l9
def od (a:Nat) (b:List (List Nat)) (c:List Nat):Option ((List Nat) × Int) :=
  (
    o9 b >>= fun r1 =>
    bif !r1 then
      some true
    else
      some (((b.length:Nat):Int) != ((c.length:Nat):Int))
  ) >>= fun x1 =>
  bif x1 then
    some (([]:List Nat),((1:Nat):Int))
  else
    o8 b >>= fun r2 =>
    dO (fun k1 (st:(List (List Nat)))=>lr b c k1 st) (b.length - 0) 0 ([]:List (List Nat)) >>= fun l2 =>
    kY a l2 r2 >>= fun r5 =>
    p7 r5.zm ((r5.zpivot.length:Nat):Int) ((r5.zm.length:Nat):Int) >>= fun l5 =>
    pi (fun k2 (st:Unit)=>nU r2 l5 k2) (l5.length - 0) 0 () >>= fun r6=>kZ r6 (fun x=>some x) fun _ =>
    qA 8 r2 r2 (0:Nat) >>= fun l6 =>
    dO (fun k3 (st:(List Nat))=>nW r2 r5 k3 st) (r5.zpivot.length - 0) 0 l6 >>= fun l8 =>
    some (l8,((0:Nat):Int))
def e7 (a:ab) (b:List (List Nat)) (l1:List Nat) (l2:List (List Nat)) (x1:Int):Option (Out ((List Nat) × (List (List Nat)) × Int) ((List Nat) × (List (List Nat)))) :=
  (
    bif decide (x1 < a.S.N) then
      some (decide (x1 < ((b.length:Nat):Int)))
    else
      some false
  ) >>= fun x2 =>
  bif x2 then
    fp x1 (1:Int) >>= fun x3 =>
    fo a x3 >>= fun r2 =>
    bif r2 then
      some (sj x3) >>= fun x4 =>
      dx 8 l1 ([x4]:List Nat) >>= fun l7 =>
      ie b x1 >>= fun x5 =>
      dx 24 l2 ([x5]:List (List Nat)) >>= fun l8 =>
      some (.go (l7,l8,x3))
    else
      some (.go (l1,l2,x3))
  else
    some (.fin (l1,l2))
def kP (a:ab) (b:List (List Nat)):Option ((List Nat) × (List (List Nat))) :=
  sS (fun (st:(List Nat) × (List (List Nat)) × Int)=>e7 a b st.1 st.2.1 st.2.2) big (([]:List Nat),([]:List (List Nat)),((0:Nat):Int)) >>= fun (l5,l6) =>
  some (l5,l6)
def iS (a:ab) (b:List (List Nat)):Option (Nat × Bool) :=
  kP a b >>= fun r1 =>
  fB a.S.P a.S.T r1.1 r1.2 >>= fun r2 =>
  bif r2.2 != (0:Int) then
    some (0,false)
  else
    bif ((r2.1.length:Nat):Int) == (0:Int) then
      some (0,false)
    else
      r2.1[0]? >>= fun x1 =>
      bif ((x1.length:Nat):Int) == (0:Int) then
        some (0,false)
      else
        x1[0]? >>= fun x2 =>
        some (x2,true)
def bq (a:ab) (r4:(List (List Nat)) × Int) (k1:Nat) (k2:Nat) (l5:List Nat) (x5:Nat):Option ((List Nat) × Nat) :=
  fp ((k2:Nat):Int) (1:Int) >>= fun x8 =>
  fo a x8 >>= fun r7 =>
  bif r7 then
    r4.1[k1]? >>= fun x9 =>
    x9[k2]? >>= fun x10 =>
    dx 8 l5 ([x10]:List Nat) >>= fun l7 =>
    some (l7,x5)
  else
    r4.1[k1]? >>= fun x11 =>
    x11[k2]? >>= fun x12 =>
    a.ax[k2]? >>= fun x13 =>
    x13[0]? >>= fun x14 =>
    dC a.S.P x12 x14 >>= fun r8 =>
    lD a.S.P x5 r8 >>= fun r9 =>
    some (l5,r9)
def bp (a:ab) (b:List Nat) (r4:(List (List Nat)) × Int) (k1:Nat) (l1:List (List Nat)) (l2:List Nat):Option ((List (List Nat)) × (List Nat)) :=
  b[k1]? >>= fun x4 =>
  oT (max 0 (a.S.N).toNat) >>= fun u2 =>
  dO (fun k2 (st:(List Nat) × Nat)=>bq a r4 k1 k2 st.1 st.2) ((max 0 (a.S.N).toNat) - 0) 0 (([]:List Nat),x4) >>= fun (l6,x7) =>
  dx 24 l1 ([l6]:List (List Nat)) >>= fun l8 =>
  dx 8 l2 ([x7]:List Nat) >>= fun l9 =>
  some (l8,l9)
def br (a:ab) (r10:(List Nat) × Int) (k3:Nat) (l11:List (List Nat)) (x17:Int):Option ((List (List Nat)) × Int) :=
  fp ((k3:Nat):Int) (1:Int) >>= fun x19 =>
  fo a x19 >>= fun r12 =>
  bif r12 then
    ie r10.1 x17 >>= fun x20 =>
    a.ax[k3]? >>= fun x21 =>
    p7 x21 (1:Int) ((x21.length:Nat):Int) >>= fun l13 =>
    dx 8 ([x20]:List Nat) l13 >>= fun l14 =>
    l11[k3]? >>= fun x22 =>
    some (l11.set k3 l14) >>= fun l15 =>
    fp x17 (1:Int) >>= fun x23 =>
    some (l15,x23)
  else
    some (l11,x17)
def db (a:ab) (b:List Nat) (x1:Int) (l12:List (List Nat)) (r16:(List (List (List Nat))) × Int × (List (List ao)) × (List aA)) (x24:Int):Option (Out Int (Bool ⊕ Unit)) :=
  (
    bif decide (x24 < x1) then
      some (decide (x24 < ((r16.1.length:Nat):Int)))
    else
      some false
  ) >>= fun x25 =>
  bif x25 then
    ie r16.1 x24 >>= fun x26 =>
    iS (⟨a.S,a.af,a.aa,l12⟩:ab) x26 >>= fun r18 =>
    bif !r18.2 then
      some (.fin (.inl false))
    else
      ie b x24 >>= fun x27 =>
      bif ((r18.1:Nat):Int) != ((x27:Nat):Int) then
        some (.fin (.inl false))
      else
        fp x24 (1:Int) >>= fun x28 =>
        some (.go x28)
  else
    some (.fin (.inr ()))
def dB (a:ab) (b:List Nat):Option Bool :=
  lz >>= fun r1 =>
  bif !r1 then
    some false
  else
    some (JY (a.S.N - a.S.T)) >>= fun x1 =>
    (
      jU a x1 ((6:Nat):Int) >>= fun r2 =>
      bif !r2 then
        some true
      else
        bif ((a.af.length:Nat):Int) != a.S.T then
          some true
        else
          bif decide (((a.aa.length:Nat):Int) > (0:Int)) then
            some true
          else
            bif ((b.length:Nat):Int) != x1 then
              some true
            else
              jp a.S.P b ((7:Nat):Int) >>= fun r3 =>
              some (!r3)
    ) >>= fun x2 =>
    bif x2 then
      some true
    else
      dZ a.S.P x1 a.S.N >>= fun r4 =>
      bif r4.2 != (0:Int) then
        some false
      else
        oT (max 0 (x1).toNat) >>= fun u1 =>
        dO (fun k1 (st:(List (List Nat)) × (List Nat))=>bp a b r4 k1 st.1 st.2) ((max 0 (x1).toNat) - 0) 0 (([]:List (List Nat)),([]:List Nat)) >>= fun (l3,l4) =>
        od a.S.P l3 l4 >>= fun r10 =>
        (
          bif r10.2 != (0:Int) then
            some true
          else
            some (((r10.1.length:Nat):Int) != x1)
        ) >>= fun x15 =>
        bif x15 then
          some false
        else
          dx 24 ([]:List (List Nat)) a.ax >>= fun l10 =>
          oT (max 0 (a.S.N).toNat) >>= fun u3 =>
          dO (fun k3 (st:(List (List Nat)) × Int)=>br a r10 k3 st.1 st.2) ((max 0 (a.S.N).toNat) - 0) 0 (l10,((0:Nat):Int)) >>= fun (l12,x18) =>
          nD (⟨a.S,a.af,a.aa,l12⟩:ab) >>= fun r13 =>
          Ec r13 (fun r14 =>
            some false)
          (fun r15 =>
            dt r15 x1 >>= fun r16 =>
            sS (fun (st:Int)=>db a b x1 l12 r16 st) big ((0:Nat):Int) >>= fun r17=>B7 r17 (fun x=>some x) fun _ =>
            some (((r16.1.length:Nat):Int) == x1))
def sx (x6:Int) (k1:Nat) (l2:List (List Nat)):Option (List (List Nat)) :=
  qA 8 x6 x6 (0:Nat) >>= fun l4 =>
  l2[k1]? >>= fun x8 =>
  some (l2.set k1 l4) >>= fun l5 =>
  some l5
def sA (a:List Nat) (x1:Int) (k2:Nat) (l12:List (List Nat)) (x19:Int) (x20:Int):Option (Out ((List (List Nat)) × Int × Int) ((List (List Nat)) × Int)) :=
  (
    bif decide (x20≤x1) then
      some (decide (((k2:Nat):Int) > (0:Int)))
    else
      some false
  ) >>= fun x23 =>
  bif x23 then
    l12[k2]? >>= fun x24 =>
    ie l12 x20 >>= fun x25 =>
    ie a x19 >>= fun x26 =>
    ie x24 x20 >>= fun x27 =>
    some (x24.set x20.toNat x26) >>= fun l15 =>
    some (l12.set k2 l15) >>= fun l16 =>
    x25[k2]? >>= fun x28 =>
    ie l16 x20 >>= fun x29 =>
    x29[k2]? >>= fun x30 =>
    some (x29.set k2 x26) >>= fun l17 =>
    some (l16.set x20.toNat l17) >>= fun l18 =>
    fp x19 (1:Int) >>= fun x31 =>
    fp x20 (1:Int) >>= fun x32 =>
    some (.go (l18,x31,x32))
  else
    some (.fin (l12,x19))
def sy (a:List Nat) (b:List Nat) (x1:Int) (k2:Nat) (l6:List (List Nat)) (x9:Int):Option ((List (List Nat)) × Int) :=
  l6[0]? >>= fun x12 =>
  l6[k2]? >>= fun x13 =>
  a[k2]? >>= fun x14 =>
  x12[k2]? >>= fun x15 =>
  some (x12.set k2 x14) >>= fun l8 =>
  some (l6.set 0 l8) >>= fun l9 =>
  x13[0]? >>= fun x16 =>
  l9[k2]? >>= fun x17 =>
  x17[0]? >>= fun x18 =>
  some (x17.set 0 x14) >>= fun l10 =>
  some (l9.set k2 l10) >>= fun l11 =>
  sS (fun (st:(List (List Nat)) × Int × Int)=>sA b x1 k2 st.1 st.2.1 st.2.2) big (l11,x9,((k2:Nat):Int)) >>= fun (l14,x22) =>
  some (l14,x22)
def i7 (a:List Nat) (b:List Nat):Option ((List (List Nat)) × Int) :=
  lg ((a.length:Nat):Int) (1:Int) >>= fun x1 =>
  (
    bif decide (x1 < (0:Int)) then
      some true
    else
      fp x1 (1:Int) >>= fun x3 =>
      nC x1 x3 >>= fun x4 =>
      vo x4 (2:Int) >>= fun x5 =>
      some (((b.length:Nat):Int) != x5)
  ) >>= fun x2 =>
  bif x2 then
    some (([]:List (List Nat)),((1:Nat):Int))
  else
    fp x1 (1:Int) >>= fun x6 =>
    qA 24 x6 x6 ([]:List Nat) >>= fun l1 =>
    oT (max 0 (x1+1).toNat) >>= fun u1 =>
    dO (fun k1 (st:(List (List Nat)))=>sx x6 k1 st) ((max 0 (x1+1).toNat) - 0) 0 l1 >>= fun l3 =>
    dO (fun k2 (st:(List (List Nat)) × Int)=>sy a b x1 k2 st.1 st.2) ((max 0 (x1+1).toNat) - 0) 0 (l3,((0:Nat):Int)) >>= fun (l7,x11) =>
    some (l7,((0:Nat):Int))
def iT (a:Nat) (x1:Nat) (x2:Nat) (x3:Nat):Option (Out (Nat × Nat × Nat) Nat) :=
  bif decide (((x2:Nat):Int) > (0:Int)) then
    wh x2 2 >>= fun x6 =>
    bif ((x6:Nat):Int) == (1:Int) then
      some (ng x3 x1) >>= fun x7 =>
      wh x7 a >>= fun x8 =>
      some (ng x1 x1) >>= fun x9 =>
      wh x9 a >>= fun x10 =>
      E4 x2 2 >>= fun x11 =>
      some (.go (x10,x11,x8))
    else
      some (ng x1 x1) >>= fun x12 =>
      wh x12 a >>= fun x13 =>
      E4 x2 2 >>= fun x14 =>
      some (.go (x13,x14,x3))
  else
    some (.fin x3)
def m3 (a:Nat) (b:Nat) (c:Nat):Option Nat :=
  sS (fun (st:Nat × Nat × Nat)=>iT a st.1 st.2.1 st.2.2) big (b,c,0) >>= fun x5 =>
  some x5
def m0 (a:Nat) (b:Nat) (c:Nat):Option Nat :=
  some (ng b c) >>= fun x1 =>
  wh x1 a >>= fun x2 =>
  some x2
def hO (a:Nat) (b:List Nat) (c:Nat) (x2:Nat) (x3:Int):Option (Out (Nat × Int) Nat) :=
  bif decide (x3 ≥ (0:Int)) then
    m3 a x2 c >>= fun r2 =>
    ie b x3 >>= fun x6 =>
    m0 a r2 x6 >>= fun r3 =>
    lg x3 (1:Int) >>= fun x7 =>
    some (.go (r3,x7))
  else
    some (.fin x2)
def lA (a:Nat) (b:List Nat) (c:Nat):Option Nat :=
  lg ((b.length:Nat):Int) (1:Int) >>= fun x1 =>
  sS (fun (st:Nat × Int)=>hO a b c st.1 st.2) big (0,x1) >>= fun x5 =>
  some x5
def kQ (a:List (List Nat)) (k1:Nat) (k2:Nat) (l3:List Nat):Option (List Nat) :=
  a[k2]? >>= fun x3 =>
  x3[k1]? >>= fun x4 =>
  dx 8 l3 ([x4]:List Nat) >>= fun l5 =>
  some l5
def iU (a:Nat) (b:List (List Nat)) (c:Nat) (k1:Nat) (l1:List Nat):Option (List Nat) :=
  dO (fun k2 (st:(List Nat))=>kQ b k1 k2 st) (b.length - 0) 0 ([]:List Nat) >>= fun l4 =>
  lA a l4 c >>= fun r3 =>
  dx 8 l1 ([r3]:List Nat) >>= fun l6 =>
  some l6
def kF (a:Nat) (b:List (List Nat)) (c:Nat):Option (List Nat) :=
  dO (fun k1 (st:(List Nat))=>iU a b c k1 st) (b.length - 0) 0 ([]:List Nat) >>= fun l2 =>
  some l2
end Pu
