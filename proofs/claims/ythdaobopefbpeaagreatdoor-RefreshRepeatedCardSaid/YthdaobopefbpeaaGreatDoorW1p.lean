/- Plain functions: what the Go functions compute, over lists and numbers, in Option (none: a run that is not followed). No Go in it. Printed by a program of this claim. -/
import Derived.Test.YthdaobopefbpeaaGreatDoorWd
set_option linter.unusedVariables false
namespace Pu
open Gw
structure aM where
  P:Nat
  N:Int
  T:Int
structure aR where
  Round:Int
  From:Int
  To:Int
  At:Int
  Kind:Int
  K:Nat
  Of:Int
  bB:Int
structure ae where
  S:aM
  ah:List Int
  aa:List aR
  aA:List (List Nat)
structure ao where
  Round:Int
  From:Int
  M3:List Nat
structure aC where
  iA:List Nat
  zat:Int
structure ai where
  zw:ae
  af:Int
  av:List (List ao)
  al:List aC
structure bi where
  Rows:List (List (List (List Nat)))
  be:List Bool
structure bj where
  zn:ai
  zs:aM
  zm:Int
  zd:bi
structure aS where
  S:List (List (List (List Nat)))
  Rows:List (List (List (List Nat)))
  aQ:List (List (List Nat))
structure ap where
  zn:ai
  zs:aM
  zq:List (List (List Nat))
  zd:aS
structure ay where
  zn:ai
  zp:Nat
  zd:aS
  a9:List (List Bool)
  bV:List (List Bool)
  dh:List (List (List (List Nat)))
structure bX where
  e0:Int
  e1:Int
structure nN where
  zl:List Nat
structure aN where
  zby:Int
  zdealer:Int
  zk:Int
structure aJ where
  X:Nat
  Y:Nat
structure mb where
  zp:Nat
  zm:List (List Nat)
  zpivot:List Int
  zdet:Nat
structure o9 where
  zp:Nat
  zf:List Nat
def vo (a:Nat) (k1:Nat):Option (Out Unit Int) :=
  ([5,7,13,17,19,31,61]:List Int)[k1]? >>= fun x1 =>
  Cc 1 x1 >>= fun x2 =>
  some (yg x2 1) >>= fun x3 =>
  bif ((a:Nat):Int) == ((x3:Nat):Int) then
    some (.fin x1)
  else
    some (.go ())
def sA (a:Nat):Option Int :=
  ow 7 >>= fun u1 =>
  oL (fun k1 (st:Unit)=>vo a k1) (7 - 0) 0 () >>= fun r1=>j6 r1 (fun x=>some x) fun _ =>
  some ((0:Nat):Int)
def ox (a:Nat):Option Bool :=
  sA a >>= fun r1 =>
  some (r1 != (0:Int))
def oU (a:aM):Option Bool :=
  ox a.P >>= fun r1 =>
  bif r1 then
    bif decide (a.N ≥ (4:Int)) then
      bif decide (a.N≤(13:Int)) then
        some (q9 a.N) >>= fun x1 =>
        bif decide (((x1:Nat):Int) < ((a.P:Nat):Int)) then
          bif decide (a.T ≥ (1:Int)) then
            bif decide (a.T < a.N) then
              nG (3:Int) a.T >>= fun x2 =>
              some (decide (x2 < a.N))
            else
              some false
          else
            some false
        else
          some false
      else
        some false
    else
      some false
  else
    some false
def jb (a:aM) (b:List Int) (k1:Nat):Option (Out Unit Bool) :=
  b[k1]? >>= fun x2 =>
  bif decide (x2 < (1:Int)) then
    some (.fin false)
  else
    bif decide (x2 > a.N) then
      some (.fin false)
    else
      bif decide (((k1:Nat):Int) > (0:Int)) then
        kG ((k1:Nat):Int) (1:Int) >>= fun x3 =>
        hZ b x3 >>= fun x4 =>
        bif decide (x4 ≥ x2) then
          some (.fin false)
        else
          some (.go ())
      else
        some (.go ())
def iE (a:aM) (b:List Int):Option Bool :=
  (
    oU a >>= fun r1 =>
    bif !r1 then
      some true
    else
      some (decide (((b.length:Nat):Int) > a.T))
  ) >>= fun x1 =>
  bif x1 then
    some false
  else
    oL (fun k1 (st:Unit)=>jb a b k1) (b.length - 0) 0 () >>= fun r2=>j6 r2 (fun x=>some x) fun _ =>
    some true
def rt (a:aM) (b:aR):Option Bool :=
  (
    bif b.Kind == (3:Int) then
      some ((1:Nat):Int)
    else
      some ((0:Nat):Int)
  ) >>= fun x1 =>
  bif decide (b.Round ≥ (0:Int)) then
    bif decide (b.At ≥ (0:Int)) then
      bif decide (b.bB ≥ (0:Int)) then
        bif decide (b.From ≥ (1:Int)) then
          bif decide (b.From≤a.N) then
            bif decide (b.To ≥ (0:Int)) then
              bif decide (b.To≤a.N) then
                bif decide (b.Kind ≥ (1:Int)) then
                  bif decide (b.Kind≤(4:Int)) then
                    bif decide (b.Of ≥ x1) then
                      some (decide (b.Of≤a.N))
                    else
                      some false
                  else
                    some false
                else
                  some false
              else
                some false
            else
              some false
          else
            some false
        else
          some false
      else
        some false
    else
      some false
  else
    some false
def jL (a:aR) (b:ae):Option Bool :=
  rt b.S a >>= fun r1 =>
  some (!r1)
def bK (a:List aR) (b:ae) (k1:Nat):Option (Out Unit Int) :=
  a[k1]? >>= fun x1 =>
  jL x1 b >>= fun r2 =>
  bif r2 then
    some (.fin ((k1:Nat):Int))
  else
    some (.go ())
def bR (a:List aR) (b:ae):Option Int :=
  oL (fun k1 (st:Unit)=>bK a b k1) (a.length - 0) 0 () >>= fun r1=>j6 r1 (fun x=>some x) fun _ =>
  some (-1)
def br (a:List aR) (b:ae):Option Bool :=
  bR a b >>= fun r1 =>
  some (decide (r1 ≥ (0:Int)))
def jc (a:Nat) (b:ae):Option Bool :=
  some (decide (((a:Nat):Int) ≥ ((b.S.P:Nat):Int)))
def cj (a:List Nat) (b:ae) (k1:Nat):Option (Out Unit Int) :=
  a[k1]? >>= fun x1 =>
  jc x1 b >>= fun r2 =>
  bif r2 then
    some (.fin ((k1:Nat):Int))
  else
    some (.go ())
def cx (a:List Nat) (b:ae):Option Int :=
  oL (fun k1 (st:Unit)=>cj a b k1) (a.length - 0) 0 () >>= fun r1=>j6 r1 (fun x=>some x) fun _ =>
  some (-1)
def bF (a:List Nat) (b:ae):Option Bool :=
  cx a b >>= fun r1 =>
  some (decide (r1 ≥ (0:Int)))
def jM (a:List Nat) (b:ae):Option Bool :=
  bF a b >>= fun r1 =>
  some r1
def ci (a:List (List Nat)) (b:ae) (k1:Nat):Option (Out Unit Int) :=
  a[k1]? >>= fun x1 =>
  jM x1 b >>= fun r2 =>
  bif r2 then
    some (.fin ((k1:Nat):Int))
  else
    some (.go ())
def cw (a:List (List Nat)) (b:ae):Option Int :=
  oL (fun k1 (st:Unit)=>ci a b k1) (a.length - 0) 0 () >>= fun r1=>j6 r1 (fun x=>some x) fun _ =>
  some (-1)
def bE (a:List (List Nat)) (b:ae):Option Bool :=
  cw a b >>= fun r1 =>
  some (decide (r1 ≥ (0:Int)))
def kS (a:ae):Option Bool :=
  iE a.S a.ah >>= fun r1 =>
  bif !r1 then
    some false
  else
    bif ((a.aA.length:Nat):Int) != a.S.N then
      some false
    else
      br a.aa a >>= fun r2 =>
      bif r2 then
        some false
      else
        bE a.aA a >>= fun r3 =>
        some (!r3)
def xQ (a:List Nat):Option aC :=
  some (⟨a,((0:Nat):Int)⟩:aC)
def sG (a:ae) (k1:Nat) (l2:List aC):Option (List aC) :=
  a.aA[k1]? >>= fun x2 =>
  xQ x2 >>= fun r3 =>
  cI 8 l2 ([r3]:List aC) >>= fun l4 =>
  some l4
def mE (a:ae):Option (Unit ⊕ ai) :=
  kS a >>= fun r1 =>
  bif !r1 then
    some (.inl ())
  else
    oY 24 a.S.N a.S.N ([]:List ao) >>= fun l1 =>
    du (fun k1 (st:(List aC))=>sG a k1 st) (a.aA.length - 0) 0 ([]:List aC) >>= fun l3 =>
    some (.inr (⟨a,((0:Nat):Int),l1,l3⟩:ai))
def bk (a:ai):Option ae :=
  some a.zw
def fK (a:ai) (b:Int):Option Nat :=
  kG b (1:Int) >>= fun x1 =>
  hZ a.al x1 >>= fun x2 =>
  some x1.toNat
def jq (a:aC):Option Int :=
  kG ((a.iA.length:Nat):Int) a.zat >>= fun x1 =>
  some x1
def kY (a:aC) (b:Int):Option ((List Nat) × Int × Int) :=
  (
    bif decide (b < (0:Int)) then
      some true
    else
      jq a >>= fun r1 =>
      some (decide (b > r1))
  ) >>= fun x1 =>
  bif x1 then
    some (([]:List Nat),((10:Nat):Int),a.zat)
  else
    e6 a.zat b >>= fun x2 =>
    qH a.iA a.zat x2 >>= fun l1 =>
    some (l1,((0:Nat):Int),x2)
def fF (a:bj) (b:Int) (k1:Nat) (l1:List aC) (l2:List (List Nat)):Option ((List aC) × (List (List Nat))) :=
  fK (⟨a.zn.zw,a.zn.af,a.zn.av,l1⟩:ai) b >>= fun r2 =>
  l1[r2]? >>= fun x2 =>
  kY x2 a.zs.T >>= fun r3 =>
  some (l1.set r2 (⟨x2.iA,r3.2.2⟩:aC)) >>= fun l5 =>
  cI 8 ([]:List Nat) r3.1 >>= fun l6 =>
  cI 8 l6 ([0]:List Nat) >>= fun l7 =>
  cI 8 ([0]:List Nat) r3.1 >>= fun l8 =>
  cI 24 l2 ([l7,l8]:List (List Nat)) >>= fun l9 =>
  some (l5,l9)
def jS (a:bj) (b:Int):Option ((List (List Nat)) × (List aC)) :=
  ow (max 0 (a.zm).toNat) >>= fun u1 =>
  du (fun k1 (st:(List aC) × (List (List Nat)))=>fF a b k1 st.1 st.2) ((max 0 (a.zm).toNat) - 0) 0 (a.zn.al,([]:List (List Nat))) >>= fun (l3,l4) =>
  some (l4,l3)
def vS (a:List Nat) (k1:Nat) (l2:List (List Nat)):Option (List (List Nat)) :=
  oY 8 ((a.length:Nat):Int) ((a.length:Nat):Int) (0:Nat) >>= fun l4 =>
  l2[k1]? >>= fun x6 =>
  some (l2.set k1 l4) >>= fun l5 =>
  some l5
def vT (a:List Nat) (k2:Nat) (l6:List (List Nat)):Option (List (List Nat)) :=
  a[k2]? >>= fun x8 =>
  l6[0]? >>= fun x9 =>
  l6[k2]? >>= fun x10 =>
  x9[k2]? >>= fun x11 =>
  some (x9.set k2 x8) >>= fun l8 =>
  some (l6.set 0 l8) >>= fun l9 =>
  x10[0]? >>= fun x12 =>
  l9[k2]? >>= fun x13 =>
  x13[0]? >>= fun x14 =>
  some (x13.set 0 x8) >>= fun l10 =>
  some (l9.set k2 l10) >>= fun l11 =>
  some l11
def nv (a:List Nat) (k3:Nat) (l16:List Nat) (l17:List (List Nat)) (x16:Int):Option (Out ((List Nat) × (List (List Nat)) × Int) ((List Nat) × (List (List Nat)))) :=
  bif decide (x16 < ((a.length:Nat):Int)) then
    l17[k3]? >>= fun x17 =>
    hZ l17 x16 >>= fun x18 =>
    l16[0]? >>= fun x19 =>
    hZ x17 x16 >>= fun x20 =>
    some (x17.set x16.toNat x19) >>= fun l22 =>
    some (l17.set k3 l22) >>= fun l23 =>
    x18[k3]? >>= fun x21 =>
    hZ l23 x16 >>= fun x22 =>
    x22[k3]? >>= fun x23 =>
    some (x22.set k3 x19) >>= fun l24 =>
    some (l23.set x16.toNat l24) >>= fun l25 =>
    qH l16 (1:Int) ((l16.length:Nat):Int) >>= fun l26 =>
    e6 x16 (1:Int) >>= fun x24 =>
    some (.go (l26,l25,x24))
  else
    some (.fin (l16,l17))
def nu (a:List Nat) (k3:Nat) (l12:List Nat) (l13:List (List Nat)):Option ((List Nat) × (List (List Nat))) :=
  uW (fun (st:(List Nat) × (List (List Nat)) × Int)=>nv a k3 st.1 st.2.1 st.2.2) big (l12,l13,((k3:Nat):Int)) >>= fun (l20,l21) =>
  some (l20,l21)
def lT (a:List Nat) (b:List Nat):Option ((List (List Nat)) × Int) :=
  (
    bif ((a.length:Nat):Int) == (0:Int) then
      some true
    else
      kG ((a.length:Nat):Int) (1:Int) >>= fun x2 =>
      nG ((a.length:Nat):Int) x2 >>= fun x3 =>
      yd x3 (2:Int) >>= fun x4 =>
      some (((b.length:Nat):Int) != x4)
  ) >>= fun x1 =>
  bif x1 then
    some (([]:List (List Nat)),((1:Nat):Int))
  else
    oY 24 ((a.length:Nat):Int) ((a.length:Nat):Int) ([]:List Nat) >>= fun l1 =>
    du (fun k1 (st:(List (List Nat)))=>vS a k1 st) (l1.length - 0) 0 l1 >>= fun l3 =>
    du (fun k2 (st:(List (List Nat)))=>vT a k2 st) (a.length - 0) 0 l3 >>= fun l7 =>
    ow (max 1 (((a.length:Nat):Int)).toNat) >>= fun u1 =>
    du (fun k3 (st:(List Nat) × (List (List Nat)))=>nu a k3 st.1 st.2) ((max 1 (((a.length:Nat):Int)).toNat) - 1) 1 (b,l7) >>= fun (l14,l15) =>
    some (l15,((0:Nat):Int))
def eE (a:Int) (b:ap) (x1:List (List Nat)) (k1:Nat) (l1:List aC) (l2:List (List (List (List Nat)))):Option ((List aC) × (List (List (List (List Nat))))) :=
  x1[k1]? >>= fun x3 =>
  e6 a (1:Int) >>= fun x4 =>
  fK (⟨b.zn.zw,b.zn.af,b.zn.av,l1⟩:ai) x4 >>= fun r2 =>
  e6 b.zs.T (1:Int) >>= fun x5 =>
  nG b.zs.T x5 >>= fun x6 =>
  yd x6 (2:Int) >>= fun x7 =>
  l1[r2]? >>= fun x8 =>
  kY x8 x7 >>= fun r3 =>
  some (l1.set r2 (⟨x8.iA,r3.2.2⟩:aC)) >>= fun l5 =>
  lT x3 r3.1 >>= fun r4 =>
  hZ l2 a >>= fun x9 =>
  cI 24 x9 ([r4.1]:List (List (List Nat))) >>= fun l6 =>
  some (l2.set a.toNat l6) >>= fun l7 =>
  some (l5,l7)
def hJ (a:Int) (b:ap):Option ((List aC) × aS) :=
  hZ b.zq a >>= fun x1 =>
  du (fun k1 (st:(List aC) × (List (List (List (List Nat)))))=>eE a b x1 k1 st.1 st.2) (x1.length - 0) 0 (b.zn.al,b.zd.S) >>= fun (l3,l4) =>
  some (l3,(⟨l4,b.zd.Rows,b.zd.aQ⟩:aS))
def bM (a:ap) (k1:Nat) (l1:List aC) (l2:List (List (List (List Nat)))) (l3:List (List (List (List Nat)))) (l4:List (List (List Nat))):Option ((List aC) × (List (List (List (List Nat)))) × (List (List (List (List Nat)))) × (List (List (List Nat)))) :=
  hJ ((k1:Nat):Int) (⟨(⟨a.zn.zw,a.zn.af,a.zn.av,l1⟩:ai),a.zs,a.zq,(⟨l2,l3,l4⟩:aS)⟩:ap) >>= fun r2 =>
  some (r2.1,r2.2.S,r2.2.Rows,r2.2.aQ)
def dp (a:ap):Option ((List aC) × aS) :=
  ow (max 0 (a.zs.N).toNat) >>= fun u1 =>
  du (fun k1 (st:(List aC) × (List (List (List (List Nat)))) × (List (List (List (List Nat)))) × (List (List (List Nat))))=>bM a k1 st.1 st.2.1 st.2.2.1 st.2.2.2) ((max 0 (a.zs.N).toNat) - 0) 0 (a.zn.al,a.zd.S,a.zd.Rows,a.zd.aQ) >>= fun (l5,l6,l7,l8) =>
  some (l5,(⟨l6,l7,l8⟩:aS))
def iW (a:ap):Option ((List aC) × aS) :=
  dp a >>= fun r1 =>
  some (r1.1,r1.2)
def mf (a:Nat) (b:Nat):Option (Nat × Nat) :=
  some (wK a 4294967295) >>= fun x1 =>
  uS a (32:Int) >>= fun x2 =>
  some (wK b 4294967295) >>= fun x3 =>
  uS b (32:Int) >>= fun x4 =>
  some (wS x1 x3) >>= fun x5 =>
  some (wS x2 x3) >>= fun x6 =>
  uS x5 (32:Int) >>= fun x7 =>
  some (nU x6 x7) >>= fun x8 =>
  some (wK x8 4294967295) >>= fun x9 =>
  uS x8 (32:Int) >>= fun x10 =>
  some (wS x1 x4) >>= fun x11 =>
  some (nU x9 x11) >>= fun x12 =>
  some (wS x2 x4) >>= fun x13 =>
  some (nU x13 x10) >>= fun x14 =>
  uS x12 (32:Int) >>= fun x15 =>
  some (nU x14 x15) >>= fun x16 =>
  some (wS a b) >>= fun x17 =>
  some (x16,x17)
def me (a:Nat):Option Int :=
  bif a == 31 then
    some ((5:Nat):Int)
  else
    bif a == 127 then
      some ((7:Nat):Int)
    else
      bif a == 8191 then
        some ((13:Nat):Int)
      else
        bif a == 131071 then
          some ((17:Nat):Int)
        else
          bif a == 524287 then
            some ((19:Nat):Int)
          else
            bif a == 2147483647 then
              some ((31:Nat):Int)
            else
              bif a == 2305843009213693951 then
                some ((61:Nat):Int)
              else
                bif a == 1 then
                  some ((1:Nat):Int)
                else
                  bif a == 2 then
                    some ((2:Nat):Int)
                  else
                    bif a == 3 then
                      some ((2:Nat):Int)
                    else
                      bif a == 4 then
                        some ((3:Nat):Int)
                      else
                        bif a == 5 then
                          some ((3:Nat):Int)
                        else
                          bif a == 6 then
                            some ((3:Nat):Int)
                          else
                            bif a == 7 then
                              some ((3:Nat):Int)
                            else
                              none
def sB (a:Nat):Option Nat :=
  me a >>= fun r1 =>
  some (q9 r1) >>= fun x1 =>
  some x1
def hQ (a:Nat) (r1:Nat) (x1:Nat) (x2:Nat):Option (Out (Nat × Nat) Nat) :=
  (
    bif ((x1:Nat):Int) != (0:Int) then
      some true
    else
      some (decide (((x2:Nat):Int) > ((a:Nat):Int)))
  ) >>= fun x5 =>
  bif x5 then
    some (wK x2 a) >>= fun x6 =>
    uS x2 ((r1:Nat):Int) >>= fun x7 =>
    some (yg 64 r1) >>= fun x8 =>
    Cc x1 ((x8:Nat):Int) >>= fun x9 =>
    some (Nw x7 x9) >>= fun x10 =>
    uS x1 ((r1:Nat):Int) >>= fun x11 =>
    some (nU x10 x6) >>= fun x12 =>
    some (Hv x10 x6) >>= fun x13 =>
    some (nU x11 x13) >>= fun x14 =>
    some (.go (x14,x12))
  else
    some (.fin x2)
def nD (a:Nat) (b:Nat) (c:Nat):Option Nat :=
  sB a >>= fun r1 =>
  uW (fun (st:Nat × Nat)=>hQ a r1 st.1 st.2) big (b,c) >>= fun x4 =>
  bif ((x4:Nat):Int) == ((a:Nat):Int) then
    some 0
  else
    some x4
def dB (a:Nat) (b:Nat) (c:Nat):Option Nat :=
  mf b c >>= fun r1 =>
  nD a r1.1 r1.2 >>= fun r2 =>
  some r2
def ka (a:Nat) (b:Nat) (c:Nat):Option Nat :=
  some (nU b c) >>= fun x1 =>
  nD a 0 x1 >>= fun r1 =>
  some r1
def nw (a:Nat) (x1:Nat) (x4:List Nat) (k2:Nat) (l4:List Nat):Option (List Nat) :=
  x4[k2]? >>= fun x6 =>
  l4[k2]? >>= fun x7 =>
  dB a x6 x1 >>= fun r3 =>
  ka a x7 r3 >>= fun r4 =>
  some (l4.set k2 r4) >>= fun l6 =>
  some l6
def jr (a:Nat) (b:List (List Nat)) (c:Nat) (k1:Nat) (l2:List Nat) (x1:Nat):Option ((List Nat) × Nat) :=
  b[k1]? >>= fun x4 =>
  du (fun k2 (st:(List Nat))=>nw a x1 x4 k2 st) (x4.length - 0) 0 l2 >>= fun l5 =>
  dB a x1 c >>= fun r5 =>
  some (l5,r5)
def fe (a:Nat) (b:List (List Nat)) (c:Nat):Option (List Nat) :=
  oY 8 ((b.length:Nat):Int) ((b.length:Nat):Int) (0:Nat) >>= fun l1 =>
  du (fun k1 (st:(List Nat) × Nat)=>jr a b c k1 st.1 st.2) (b.length - 0) 0 (l1,1) >>= fun (l3,x3) =>
  some l3
def gt (a:ap) (k1:Nat) (x2:List (List (List Nat))) (k2:Nat) (l3:List Nat):Option (List Nat) :=
  x2[k2]? >>= fun x4 =>
  some (q9 ((k1:Nat):Int)) >>= fun x5 =>
  fe a.zs.P x4 x5 >>= fun r3 =>
  cI 8 l3 r3 >>= fun l5 =>
  some l5
def gr (a:Int) (b:ap) (k1:Nat) (l1:List (List (List Nat))):Option (List (List (List Nat))) :=
  hZ b.zd.S a >>= fun x2 =>
  ow x2.length >>= fun u2 =>
  du (fun k2 (st:(List Nat))=>gt b k1 x2 k2 st) (x2.length - 0) 0 ([]:List Nat) >>= fun l4 =>
  hZ l1 a >>= fun x6 =>
  cI 24 x6 ([l4]:List (List Nat)) >>= fun l6 =>
  some (l1.set a.toNat l6) >>= fun l7 =>
  some l7
def fq (a:Int) (b:ap) (c:List (List (List Nat))):Option (List (List (List Nat))) :=
  ow (max 1 (b.zs.N+1).toNat) >>= fun u1 =>
  du (fun k1 (st:(List (List (List Nat))))=>gr a b k1 st) ((max 1 (b.zs.N+1).toNat) - 1) 1 c >>= fun l2 =>
  some l2
def cK (a:ap) (k1:Nat) (l1:List (List (List Nat))):Option (List (List (List Nat))) :=
  fq ((k1:Nat):Int) a l1 >>= fun r2 =>
  some r2
def ca (a:ap) (b:List (List (List Nat))):Option (List (List (List Nat))) :=
  ow (max 0 (a.zs.N).toNat) >>= fun u1 =>
  du (fun k1 (st:(List (List (List Nat))))=>cK a k1 st) ((max 0 (a.zs.N).toNat) - 0) 0 b >>= fun l2 =>
  some l2
def bW (a:List (List Nat)):Option (List (List Nat)) :=
  cI 24 ([]:List (List Nat)) a >>= fun l1 =>
  some l1
def jf (a:List Int) (b:Int) (k1:Nat):Option (Out Unit Int) :=
  a[k1]? >>= fun x1 =>
  bif b == x1 then
    some (.fin ((k1:Nat):Int))
  else
    some (.go ())
def kn (a:List Int) (b:Int):Option Int :=
  oL (fun k1 (st:Unit)=>jf a b k1) (a.length - 0) 0 () >>= fun r1=>j6 r1 (fun x=>some x) fun _ =>
  some (-1)
def cZ (a:List Int) (b:Int):Option Bool :=
  kn a b >>= fun r1 =>
  some (decide (r1 ≥ (0:Int)))
def kI (a:ae) (b:aR) (c:Int):Option Bool :=
  bif b.Round == c then
    cZ a.ah b.From >>= fun r1 =>
    some r1
  else
    some false
def oQ (a:Nat) (b:Nat):Option Nat :=
  nD a 0 b >>= fun r1 =>
  some r1
def cm (a:List Nat):Option (List Nat) :=
  cI 8 ([]:List Nat) a >>= fun l1 =>
  some l1
def kK (a:List Nat) (b:Int):Option Nat :=
  bif decide (b < (0:Int)) then
    some 0
  else
    bif decide (b ≥ ((a.length:Nat):Int)) then
      some 0
    else
      hZ a b >>= fun x1 =>
      some x1
def kJ (a:ae) (b:aR) (c:List Nat) (d:List Nat):Option (List Nat) :=
  bif b.Kind == (4:Int) then
    some ([]:List Nat)
  else
    bif decide (b.At ≥ ((c.length:Nat):Int)) then
      some c
    else
      oQ a.S.P b.K >>= fun r1 =>
      cm c >>= fun r2 =>
      bif b.Kind == (1:Int) then
        hZ r2 b.At >>= fun x1 =>
        some (r2.set b.At.toNat r1) >>= fun l1 =>
        some l1
      else
        bif b.Kind == (2:Int) then
          hZ r2 b.At >>= fun x2 =>
          ka a.S.P x2 r1 >>= fun r3 =>
          some (r2.set b.At.toNat r3) >>= fun l2 =>
          some l2
        else
          bif b.Kind == (3:Int) then
            cZ a.ah b.Of >>= fun r4 =>
            (
              bif !r4 then
                kK d b.bB >>= fun r5 =>
                some r5
              else
                some 0
            ) >>= fun x3 =>
            hZ r2 b.At >>= fun x4 =>
            dB a.S.P r1 x3 >>= fun r6 =>
            ka a.S.P x4 r6 >>= fun r7 =>
            some (r2.set b.At.toNat r7) >>= fun l3 =>
            some l3
          else
            some r2
def dE (a:List (List (List Nat))) (k1:Nat) (l2:List (List (List Nat))):Option (List (List (List Nat))) :=
  a[k1]? >>= fun x2 =>
  bW x2 >>= fun r2 =>
  l2[k1]? >>= fun x3 =>
  some (l2.set k1 r2) >>= fun l4 =>
  some l4
def gD (a:ae) (x5:aR) (l7:List Nat) (x10:Int) (k3:Nat) (l8:List (List (List Nat))):Option (List (List (List Nat))) :=
  (
    e6 ((k3:Nat):Int) (1:Int) >>= fun x14 =>
    bif x14 != x5.From then
      bif x5.To == (0:Int) then
        some true
      else
        some (x5.To == x14)
    else
      some false
  ) >>= fun x13 =>
  bif x13 then
    hZ l8 x10 >>= fun x15 =>
    x15[k3]? >>= fun x16 =>
    kJ a x5 x16 l7 >>= fun r6 =>
    some (x15.set k3 r6) >>= fun l10 =>
    some (l8.set x10.toNat l10) >>= fun l11 =>
    some l11
  else
    some l8
def gC (a:ae) (b:Int) (c:List (List (List Nat))) (k2:Nat) (l5:List (List (List Nat))):Option (List (List (List Nat))) :=
  a.aa[k2]? >>= fun x5 =>
  kI a x5 b >>= fun r4 =>
  bif !r4 then
    some l5
  else
    (
      bif x5.Kind == (3:Int) then
        kG x5.Of (1:Int) >>= fun x6 =>
        hZ c x6 >>= fun x7 =>
        kG x5.From (1:Int) >>= fun x8 =>
        hZ x7 x8 >>= fun x9 =>
        some x9
      else
        some ([]:List Nat)
    ) >>= fun l7 =>
    kG x5.From (1:Int) >>= fun x10 =>
    hZ l5 x10 >>= fun x11 =>
    ow x11.length >>= fun u1 =>
    du (fun k3 (st:(List (List (List Nat))))=>gD a x5 l7 x10 k3 st) (x11.length - 0) 0 l5 >>= fun l9 =>
    some l9
def bJ (a:ae) (b:Int) (c:List (List (List Nat))):Option (List (List (List Nat))) :=
  oY 24 ((c.length:Nat):Int) ((c.length:Nat):Int) ([]:List (List Nat)) >>= fun l1 =>
  du (fun k1 (st:(List (List (List Nat))))=>dE c k1 st) (c.length - 0) 0 l1 >>= fun l3 =>
  du (fun k2 (st:(List (List (List Nat))))=>gC a b c k2 st) (a.aa.length - 0) 0 l3 >>= fun l6 =>
  some l6
def ju (a:ai) (b:Int) (c:Int) (d:List Nat):Option (List (List ao)) :=
  (
    bif b != c then
      some (decide (((d.length:Nat):Int) > (0:Int)))
    else
      some false
  ) >>= fun x1 =>
  bif x1 then
    hZ a.av b >>= fun x2 =>
    e6 c (1:Int) >>= fun x3 =>
    cI 8 ([]:List Nat) d >>= fun l1 =>
    cI 40 x2 ([(⟨a.af,x3,l1⟩:ao)]:List ao) >>= fun l2 =>
    some (a.av.set b.toNat l2) >>= fun l3 =>
    some l3
  else
    some a.av
def gK (a:ai) (r1:(List (List (List Nat)))) (k1:Nat) (k2:Nat) (l6:List (List ao)) (l7:List (List (List Nat))):Option ((List (List ao)) × (List (List (List Nat)))) :=
  r1[k2]? >>= fun x3 =>
  x3[k1]? >>= fun x4 =>
  cI 8 ([]:List Nat) x4 >>= fun l10 =>
  l7[k1]? >>= fun x5 =>
  cI 24 x5 ([l10]:List (List Nat)) >>= fun l11 =>
  some (l7.set k1 l11) >>= fun l12 =>
  ju (⟨a.zw,a.af,l6,a.al⟩:ai) ((k1:Nat):Int) ((k2:Nat):Int) l10 >>= fun r4 =>
  some (r4,l12)
def gJ (a:ai) (r1:(List (List (List Nat)))) (k1:Nat) (l2:List (List ao)) (l3:List (List (List Nat))):Option ((List (List ao)) × (List (List (List Nat)))) :=
  ow (max 0 (a.zw.S.N).toNat) >>= fun u1 =>
  du (fun k2 (st:(List (List ao)) × (List (List (List Nat))))=>gK a r1 k1 k2 st.1 st.2) ((max 0 (a.zw.S.N).toNat) - 0) 0 (l2,l3) >>= fun (l8,l9) =>
  some (l8,l9)
def io (a:ai) (b:List (List (List Nat))):Option ((List (List (List Nat))) × Int × (List (List ao))) :=
  bJ a.zw a.af b >>= fun r1 =>
  oY 24 a.zw.S.N a.zw.S.N ([]:List (List Nat)) >>= fun l1 =>
  du (fun k1 (st:(List (List ao)) × (List (List (List Nat))))=>gJ a r1 k1 st.1 st.2) (l1.length - 0) 0 (a.av,l1) >>= fun (l4,l5) =>
  e6 a.af (1:Int) >>= fun x6 =>
  some (l5,x6,l4)
def dW (a:List Nat) (b:Int):Option (List Nat) :=
  oY 8 b b (0:Nat) >>= fun l1 =>
  some (uj l1 a)
def gv (a:Int) (r2:(List Nat)) (k2:Nat) (l3:List (List Nat)):Option (List (List Nat)) :=
  nG ((k2:Nat):Int) a >>= fun x7 =>
  e6 ((k2:Nat):Int) (1:Int) >>= fun x8 =>
  nG x8 a >>= fun x9 =>
  qH r2 x7 x9 >>= fun l5 =>
  cI 24 l3 ([l5]:List (List Nat)) >>= fun l6 =>
  some l6
def gu (a:Int) (b:ap) (c:List (List (List Nat))) (d:Int) (k1:Nat) (l1:List (List (List (List Nat)))):Option (List (List (List (List Nat)))) :=
  b.zq[k1]? >>= fun x2 =>
  hZ c a >>= fun x3 =>
  x3[k1]? >>= fun x4 =>
  nG ((x2.length:Nat):Int) d >>= fun x5 =>
  dW x4 x5 >>= fun r2 =>
  du (fun k2 (st:(List (List Nat)))=>gv d r2 k2 st) (x2.length - 0) 0 ([]:List (List Nat)) >>= fun l4 =>
  hZ l1 a >>= fun x10 =>
  cI 24 x10 ([l4]:List (List (List Nat))) >>= fun l7 =>
  some (l1.set a.toNat l7) >>= fun l8 =>
  some l8
def ft (a:Int) (b:ap) (c:List (List (List Nat))) (d:Int):Option aS :=
  du (fun k1 (st:(List (List (List (List Nat)))))=>gu a b c d k1 st) (b.zq.length - 0) 0 b.zd.Rows >>= fun l2 =>
  some (⟨b.zd.S,l2,b.zd.aQ⟩:aS)
def bD (a:ap) (b:List (List (List Nat))) (c:Int) (k1:Nat) (l1:List (List (List (List Nat)))) (l2:List (List (List (List Nat)))) (l3:List (List (List Nat))):Option ((List (List (List (List Nat)))) × (List (List (List (List Nat)))) × (List (List (List Nat)))) :=
  ft ((k1:Nat):Int) (⟨a.zn,a.zs,a.zq,(⟨l1,l2,l3⟩:aS)⟩:ap) b c >>= fun r2 =>
  some (r2.S,r2.Rows,r2.aQ)
def cb (a:ap) (b:List (List (List Nat))) (c:Int):Option aS :=
  ow (max 0 (a.zs.N).toNat) >>= fun u1 =>
  du (fun k1 (st:(List (List (List (List Nat)))) × (List (List (List (List Nat)))) × (List (List (List Nat))))=>bD a b c k1 st.1 st.2.1 st.2.2) ((max 0 (a.zs.N).toNat) - 0) 0 (a.zd.S,a.zd.Rows,a.zd.aQ) >>= fun (l4,l5,l6) =>
  some (⟨l4,l5,l6⟩:aS)
def fY (a:ap):Option (Int × (List (List ao)) × aS) :=
  e6 a.zs.T (1:Int) >>= fun x1 =>
  oY 24 a.zs.N a.zs.N ([]:List (List Nat)) >>= fun l1 =>
  ca a l1 >>= fun r1 =>
  io a.zn r1 >>= fun r2 =>
  cb (⟨(⟨a.zn.zw,r2.2.1,r2.2.2,a.zn.al⟩:ai),a.zs,a.zq,a.zd⟩:ap) r2.1 x1 >>= fun r3 =>
  some (r2.2.1,r2.2.2,r3)
def mR (a:Nat) (b:List Nat) (c:Nat) (x2:Nat) (x3:Int):Option (Out (Nat × Int) Nat) :=
  bif decide (x3 ≥ (0:Int)) then
    dB a x2 c >>= fun r2 =>
    hZ b x3 >>= fun x6 =>
    ka a r2 x6 >>= fun r3 =>
    kG x3 (1:Int) >>= fun x7 =>
    some (.go (r3,x7))
  else
    some (.fin x2)
def iM (a:Nat) (b:List Nat) (c:Nat):Option Nat :=
  kG ((b.length:Nat):Int) (1:Int) >>= fun x1 =>
  uW (fun (st:Nat × Int)=>mR a b c st.1 st.2) big (0,x1) >>= fun x5 =>
  some x5
def mG (a:ap) (b:Int) (x3:List (List Nat)) (k2:Nat) (l3:List Nat):Option (List Nat) :=
  x3[k2]? >>= fun x5 =>
  some (q9 b) >>= fun x6 =>
  iM a.zs.P x5 x6 >>= fun r3 =>
  cI 8 l3 ([r3]:List Nat) >>= fun l5 =>
  some l5
def jC (a:ap) (b:Int) (x1:List (List (List Nat))) (k1:Nat) (l1:List Nat):Option (List Nat) :=
  x1[k1]? >>= fun x3 =>
  du (fun k2 (st:(List Nat))=>mG a b x3 k2 st) (x3.length - 0) 0 l1 >>= fun l4 =>
  some l4
def gw (a:ap) (b:Int) (c:Int):Option (List Nat) :=
  hZ a.zd.Rows b >>= fun x1 =>
  ow x1.length >>= fun u1 =>
  du (fun k1 (st:(List Nat))=>jC a c x1 k1 st) (x1.length - 0) 0 ([]:List Nat) >>= fun l2 =>
  some l2
def lk (a:Int) (b:ap) (k1:Nat) (l1:List (List (List Nat))):Option (List (List (List Nat))) :=
  hZ l1 a >>= fun x2 =>
  gw b a ((k1:Nat):Int) >>= fun r2 =>
  cI 24 x2 ([r2]:List (List Nat)) >>= fun l3 =>
  some (l1.set a.toNat l3) >>= fun l4 =>
  some l4
def jB (a:Int) (b:ap) (c:List (List (List Nat))):Option (List (List (List Nat))) :=
  ow (max 1 (b.zs.N+1).toNat) >>= fun u1 =>
  du (fun k1 (st:(List (List (List Nat))))=>lk a b k1 st) ((max 1 (b.zs.N+1).toNat) - 1) 1 c >>= fun l2 =>
  some l2
def eG (a:ap) (k1:Nat) (l1:List (List (List Nat))):Option (List (List (List Nat))) :=
  jB ((k1:Nat):Int) a l1 >>= fun r2 =>
  some r2
def cy (a:ap) (b:List (List (List Nat))):Option (List (List (List Nat))) :=
  ow (max 0 (a.zs.N).toNat) >>= fun u1 =>
  du (fun k1 (st:(List (List (List Nat))))=>eG a k1 st) ((max 0 (a.zs.N).toNat) - 0) 0 b >>= fun l2 =>
  some l2
def iF (a:ap):Option ((List (List (List Nat))) × Int × (List (List ao))) :=
  oY 24 a.zs.N a.zs.N ([]:List (List Nat)) >>= fun l1 =>
  cy a l1 >>= fun r1 =>
  io a.zn r1 >>= fun r2 =>
  some (r2.1,r2.2.1,r2.2.2)
def fv (a:ap) (k1:Nat) (r2:(List Nat)) (r3:(List Nat)) (k2:Nat) (k3:Nat) (l6:List Nat) (x9:Int):Option ((List Nat) × Int) :=
  hZ r3 x9 >>= fun x12 =>
  hZ r2 x9 >>= fun x13 =>
  bif ((x12:Nat):Int) != ((x13:Nat):Int) then
    nG ((k2:Nat):Int) a.zs.N >>= fun x14 =>
    e6 x14 ((k1:Nat):Int) >>= fun x15 =>
    hZ l6 x15 >>= fun x16 =>
    some (l6.set x15.toNat 1) >>= fun l8 =>
    e6 x9 (1:Int) >>= fun x17 =>
    some (l8,x17)
  else
    e6 x9 (1:Int) >>= fun x18 =>
    some (l6,x18)
def fu (a:ap) (k1:Nat) (r2:(List Nat)) (r3:(List Nat)) (k2:Nat) (l4:List Nat) (x5:Int):Option ((List Nat) × Int) :=
  a.zq[k2]? >>= fun x8 =>
  du (fun k3 (st:(List Nat) × Int)=>fv a k1 r2 r3 k2 k3 st.1 st.2) (x8.length - 0) 0 (l4,x5) >>= fun (l7,x11) =>
  some (l7,x11)
def jY (a:ap) (b:Int) (c:List (List Nat)) (k1:Nat) (l2:List Nat):Option (List Nat) :=
  bif ((k1:Nat):Int) == b then
    some l2
  else
    e6 ((k1:Nat):Int) (1:Int) >>= fun x3 =>
    gw a b x3 >>= fun r2 =>
    c[k1]? >>= fun x4 =>
    dW x4 ((r2.length:Nat):Int) >>= fun r3 =>
    du (fun k2 (st:(List Nat) × Int)=>fu a k1 r2 r3 k2 st.1 st.2) (a.zq.length - 0) 0 (l2,((0:Nat):Int)) >>= fun (l5,x7) =>
    some l5
def dM (a:ap) (b:Int) (c:List (List Nat)):Option (List Nat) :=
  nG a.zs.N a.zs.N >>= fun x1 =>
  oY 8 x1 x1 (0:Nat) >>= fun l1 =>
  ow (max 0 (a.zs.N).toNat) >>= fun u1 =>
  du (fun k1 (st:(List Nat))=>jY a b c k1 st) ((max 0 (a.zs.N).toNat) - 0) 0 l1 >>= fun l3 =>
  some l3
def jg (a:Int) (b:ap) (c:List (List (List Nat))) (d:List (List Nat)):Option (List (List Nat)) :=
  hZ c a >>= fun x1 =>
  dM b a x1 >>= fun r1 =>
  hZ d a >>= fun x2 =>
  some (d.set a.toNat r1) >>= fun l1 =>
  some l1
def eh (a:ap) (b:List (List (List Nat))) (k1:Nat) (l1:List (List Nat)):Option (List (List Nat)) :=
  jg ((k1:Nat):Int) a b l1 >>= fun r2 =>
  some r2
def cu (a:ap) (b:List (List (List Nat))) (c:List (List Nat)):Option (List (List Nat)) :=
  ow (max 0 (a.zs.N).toNat) >>= fun u1 =>
  du (fun k1 (st:(List (List Nat)))=>eh a b k1 st) ((max 0 (a.zs.N).toNat) - 0) 0 c >>= fun l2 =>
  some l2
def fH (a:ae) (b:Int) (c:List (List Nat)) (k1:Nat) (l1:List (List Nat)):Option (List (List Nat)) :=
  a.aa[k1]? >>= fun x2 =>
  kI a x2 b >>= fun r3 =>
  bif !r3 then
    some l1
  else
    (
      bif x2.Kind == (3:Int) then
        kG x2.Of (1:Int) >>= fun x3 =>
        hZ c x3 >>= fun x4 =>
        some x4
      else
        some ([]:List Nat)
    ) >>= fun l3 =>
    kG x2.From (1:Int) >>= fun x5 =>
    hZ l1 x5 >>= fun x6 =>
    kJ a x2 x6 l3 >>= fun r4 =>
    some (l1.set x5.toNat r4) >>= fun l4 =>
    some l4
def bb (a:ae) (b:Int) (c:List (List Nat)):Option (List (List Nat)) :=
  bW c >>= fun r1 =>
  du (fun k1 (st:(List (List Nat)))=>fH a b c k1 st) (a.aa.length - 0) 0 r1 >>= fun l2 =>
  some l2
def ja (a:ai) (k1:Nat) (l7:List (List Nat)) (k2:Nat) (l8:List (List ao)):Option (List (List ao)) :=
  l7[k1]? >>= fun x5 =>
  ju (⟨a.zw,a.af,l8,a.al⟩:ai) ((k2:Nat):Int) ((k1:Nat):Int) x5 >>= fun r4 =>
  some r4
def eU (a:ai) (r1:(List (List Nat))) (k1:Nat) (l2:List (List ao)) (l3:List (List Nat)):Option ((List (List ao)) × (List (List Nat))) :=
  r1[k1]? >>= fun x2 =>
  cI 8 ([]:List Nat) x2 >>= fun l6 =>
  l3[k1]? >>= fun x3 =>
  some (l3.set k1 l6) >>= fun l7 =>
  du (fun k2 (st:(List (List ao)))=>ja a k1 l7 k2 st) (l7.length - 0) 0 l2 >>= fun l9 =>
  some (l9,l7)
def ce (a:ai) (b:List (List Nat)):Option ((List (List Nat)) × Int × (List (List ao))) :=
  bb a.zw a.af b >>= fun r1 =>
  oY 24 a.zw.S.N a.zw.S.N (([]:List Nat):List Nat) >>= fun l1 =>
  du (fun k1 (st:(List (List ao)) × (List (List Nat)))=>eU a r1 k1 st.1 st.2) (l1.length - 0) 0 (a.av,l1) >>= fun (l4,l5) =>
  e6 a.af (1:Int) >>= fun x6 =>
  some (l5,x6,l4)
def kD (a:Int) (b:ap) (r1:(List Nat)) (k1:Nat) (l1:List (List (List Nat))):Option (List (List (List Nat))) :=
  hZ l1 a >>= fun x4 =>
  nG ((k1:Nat):Int) b.zs.N >>= fun x5 =>
  e6 ((k1:Nat):Int) (1:Int) >>= fun x6 =>
  nG x6 b.zs.N >>= fun x7 =>
  qH r1 x5 x7 >>= fun l3 =>
  cI 24 x4 ([l3]:List (List Nat)) >>= fun l4 =>
  some (l1.set a.toNat l4) >>= fun l5 =>
  some l5
def fX (a:Int) (b:List (List Nat)) (c:ap):Option aS :=
  hZ b a >>= fun x1 =>
  nG c.zs.N c.zs.N >>= fun x2 =>
  dW x1 x2 >>= fun r1 =>
  ow (max 0 (c.zs.N).toNat) >>= fun u1 =>
  du (fun k1 (st:(List (List (List Nat))))=>kD a c r1 k1 st) ((max 0 (c.zs.N).toNat) - 0) 0 c.zd.aQ >>= fun l2 =>
  some (⟨c.zd.S,c.zd.Rows,l2⟩:aS)
def bI (a:ap) (b:List (List Nat)) (k1:Nat) (l1:List (List (List (List Nat)))) (l2:List (List (List (List Nat)))) (l3:List (List (List Nat))):Option ((List (List (List (List Nat)))) × (List (List (List (List Nat)))) × (List (List (List Nat)))) :=
  fX ((k1:Nat):Int) b (⟨a.zn,a.zs,a.zq,(⟨l1,l2,l3⟩:aS)⟩:ap) >>= fun r2 =>
  some (r2.S,r2.Rows,r2.aQ)
def cv (a:ap) (b:List (List Nat)):Option aS :=
  ow (max 0 (a.zs.N).toNat) >>= fun u1 =>
  du (fun k1 (st:(List (List (List (List Nat)))) × (List (List (List (List Nat)))) × (List (List (List Nat))))=>bI a b k1 st.1 st.2.1 st.2.2) ((max 0 (a.zs.N).toNat) - 0) 0 (a.zd.S,a.zd.Rows,a.zd.aQ) >>= fun (l4,l5,l6) =>
  some (⟨l4,l5,l6⟩:aS)
def hO (a:ap) (b:List (List (List Nat))):Option (Int × (List (List ao)) × aS) :=
  oY 24 a.zs.N a.zs.N (([]:List Nat):List Nat) >>= fun l1 =>
  cu a b l1 >>= fun r1 =>
  ce a.zn r1 >>= fun r2 =>
  cv (⟨(⟨a.zn.zw,r2.2.1,r2.2.2,a.zn.al⟩:ai),a.zs,a.zq,a.zd⟩:ap) r2.1 >>= fun r3 =>
  some (r2.2.1,r2.2.2,r3)
def jX (a:ai) (b:List (List (List Nat))):Option (aS × Int × (List (List ao)) × (List aC)) :=
  bk a >>= fun r1 =>
  oY 24 r1.S.N r1.S.N ([]:List (List (List Nat))) >>= fun l1 =>
  oY 24 r1.S.N r1.S.N ([]:List (List Nat)) >>= fun l2 =>
  iW (⟨a,r1.S,b,(⟨l1,l1,l2⟩:aS)⟩:ap) >>= fun r2 =>
  fY (⟨(⟨a.zw,a.af,a.av,r2.1⟩:ai),r1.S,b,r2.2⟩:ap) >>= fun r3 =>
  iF (⟨(⟨a.zw,r3.1,r3.2.1,r2.1⟩:ai),r1.S,b,r3.2.2⟩:ap) >>= fun r4 =>
  hO (⟨(⟨a.zw,r4.2.1,r4.2.2,r2.1⟩:ai),r1.S,b,r3.2.2⟩:ap) r4.1 >>= fun r5 =>
  some (r5.2.2,r5.1,r5.2.1,r2.1)
def bu (a:ay):Option Int :=
  some ((a.zd.Rows.length:Nat):Int)
def nn (k1:Nat) (x3:List Nat) (k2:Nat) (l3:List bX):Option (List bX) :=
  x3[k2]? >>= fun x5 =>
  bif ((x5:Nat):Int) != (0:Int) then
    cI 16 l3 ([(⟨((k1:Nat):Int),((k2:Nat):Int)⟩:bX)]:List bX) >>= fun l5 =>
    some l5
  else
    some l3
def ko (a:ay) (b:Int) (k1:Nat) (l1:List bX):Option (List bX) :=
  a.zd.aQ[k1]? >>= fun x2 =>
  hZ x2 b >>= fun x3 =>
  du (fun k2 (st:(List bX))=>nn k1 x3 k2 st) (x3.length - 0) 0 l1 >>= fun l4 =>
  some l4
def fS (a:ay) (b:Int):Option (List bX) :=
  bu a >>= fun r1 =>
  ow (max 0 (r1).toNat) >>= fun u1 =>
  du (fun k1 (st:(List bX))=>ko a b k1 st) ((max 0 (r1).toNat) - 0) 0 ([]:List bX) >>= fun l2 =>
  some l2
def rA (a:Int):Option Nat :=
  e6 a (1:Int) >>= fun x1 =>
  some (q9 x1) >>= fun x2 =>
  some x2
def mJ (a:Nat) (b:List (List Nat)) (c:Nat) (d:Nat):Option Nat :=
  fe a b c >>= fun r1 =>
  iM a r1 d >>= fun r2 =>
  some r2
def gG (a:ay) (b:Int):Option Int :=
  hZ a.zd.S b >>= fun x1 =>
  some ((x1.length:Nat):Int)
def jA (a:nN) (b:Int):Option ((List Nat) × (List Nat)) :=
  dW a.zl b >>= fun r1 =>
  some (min b ((a.zl.length:Nat):Int)) >>= fun x1 =>
  qH a.zl x1 ((a.zl.length:Nat):Int) >>= fun l1 =>
  some (r1,l1)
def og (a:ay) (x3:bX) (x4:List (List (List Nat))) (k3:Nat) (l5:List Nat):Option (List Nat) :=
  x4[k3]? >>= fun x6 =>
  rA x3.e0 >>= fun r6 =>
  rA x3.e1 >>= fun r7 =>
  mJ a.zp x6 r6 r7 >>= fun r8 =>
  cI 8 l5 ([r8]:List Nat) >>= fun l7 =>
  some l7
def lg (a:ay) (k1:Nat) (r3:(List bX)) (k2:Nat) (l3:List Nat):Option (List Nat) :=
  r3[k2]? >>= fun x3 =>
  a.zd.S[k1]? >>= fun x4 =>
  du (fun k3 (st:(List Nat))=>og a x3 x4 k3 st) (x4.length - 0) 0 l3 >>= fun l6 =>
  some l6
def lf (a:ay) (k1:Nat) (l1:List (List Nat)):Option (List (List Nat)) :=
  fS a ((k1:Nat):Int) >>= fun r3 =>
  du (fun k2 (st:(List Nat))=>lg a k1 r3 k2 st) (r3.length - 0) 0 ([]:List Nat) >>= fun l4 =>
  cI 24 l1 ([l4]:List (List Nat)) >>= fun l8 =>
  some l8
def gp (a:ay) (r9:(List (List Nat)) × Int × (List (List ao))) (k4:Nat) (k5:Nat) (l11:List Nat) (l12:List (List Nat)):Option ((List Nat) × (List (List Nat))) :=
  gG (⟨(⟨a.zn.zw,r9.2.1,r9.2.2,a.zn.al⟩:ai),a.zp,a.zd,a.a9,a.bV,a.dh⟩:ay) ((k4:Nat):Int) >>= fun r14 =>
  jA (⟨l11⟩:nN) r14 >>= fun r15 =>
  cI 24 l12 ([r15.1]:List (List Nat)) >>= fun l15 =>
  some (r15.2,l15)
def oh (a:ay) (r9:(List (List Nat)) × Int × (List (List ao))) (k4:Nat) (l9:List (List (List Nat))):Option (List (List (List Nat))) :=
  r9.1[k4]? >>= fun x8 =>
  fS (⟨(⟨a.zn.zw,r9.2.1,r9.2.2,a.zn.al⟩:ai),a.zp,a.zd,a.a9,a.bV,a.dh⟩:ay) ((k4:Nat):Int) >>= fun r12 =>
  du (fun k5 (st:(List Nat) × (List (List Nat)))=>gp a r9 k4 k5 st.1 st.2) (r12.length - 0) 0 (x8,([]:List (List Nat))) >>= fun (l13,l14) =>
  cI 24 l9 ([l14]:List (List (List Nat))) >>= fun l16 =>
  some l16
def kB (a:ay):Option ((List (List (List Nat))) × Int × (List (List ao))) :=
  bu a >>= fun r1 =>
  ow (max 0 (r1).toNat) >>= fun u1 =>
  du (fun k1 (st:(List (List Nat)))=>lf a k1 st) ((max 0 (r1).toNat) - 0) 0 ([]:List (List Nat)) >>= fun l2 =>
  ce a.zn l2 >>= fun r9 =>
  bu (⟨(⟨a.zn.zw,r9.2.1,r9.2.2,a.zn.al⟩:ai),a.zp,a.zd,a.a9,a.bV,a.dh⟩:ay) >>= fun r10 =>
  ow (max 0 (r10).toNat) >>= fun u2 =>
  du (fun k4 (st:(List (List (List Nat))))=>oh a r9 k4 st) ((max 0 (r10).toNat) - 0) 0 ([]:List (List (List Nat))) >>= fun l10 =>
  some (l10,r9.2.1,r9.2.2)
def rB (a:bX) (b:Int):Option (List Int) :=
  (
    bif a.e0 == b then
      cI 8 ([]:List Int) ([a.e1]:List Int) >>= fun l2 =>
      some l2
    else
      some ([]:List Int)
  ) >>= fun l1 =>
  bif a.e1 == b then
    cI 8 l1 ([a.e0]:List Int) >>= fun l3 =>
    some l3
  else
    some l1
def lY (a:ay) (b:Int) (c:Int) (d:Int):Option (List Nat) :=
  hZ a.zd.Rows b >>= fun x1 =>
  hZ x1 c >>= fun x2 =>
  hZ x2 d >>= fun x3 =>
  some x3
def lj (a:ay) (b:Int) (c:Int) (x2:Int) (x3:List Nat) (k3:Nat):Option (Out Unit Bool) :=
  x3[k3]? >>= fun x4 =>
  lY a b c ((k3:Nat):Int) >>= fun r6 =>
  rA x2 >>= fun r7 =>
  iM a.zp r6 r7 >>= fun r8 =>
  bif ((r8:Nat):Int) != ((x4:Nat):Int) then
    some (.fin true)
  else
    some (.go ())
def li (a:ay) (b:Int) (c:Int) (d:List (List Nat)) (k1:Nat) (r3:(List Int)) (k2:Nat):Option (Out Unit Bool) :=
  r3[k2]? >>= fun x2 =>
  d[k1]? >>= fun x3 =>
  oL (fun k3 (st:Unit)=>lj a b c x2 x3 k3) (x3.length - 0) 0 () >>= fun r5=>j6 r5 (fun x=>some (.fin x)) fun _ =>
  some (.go ())
def lh (a:ay) (b:Int) (c:Int) (d:List (List Nat)) (r1:(List bX)) (k1:Nat):Option (Out Unit Bool) :=
  r1[k1]? >>= fun x1 =>
  rB x1 b >>= fun r3 =>
  oL (fun k2 (st:Unit)=>li a b c d k1 r3 k2) (r3.length - 0) 0 () >>= fun r4=>j6 r4 (fun x=>some (.fin x)) fun _ =>
  some (.go ())
def kC (a:ay) (b:Int) (c:Int) (d:List (List Nat)):Option Bool :=
  fS a c >>= fun r1 =>
  oL (fun k1 (st:Unit)=>lh a b c d r1 k1) (r1.length - 0) 0 () >>= fun r2=>j6 r2 (fun x=>some x) fun _ =>
  some false
def iy (a:Int) (b:Int) (c:ay) (d:List (List (List Nat))):Option Bool :=
  hZ d b >>= fun x1 =>
  kC c a b x1 >>= fun r1 =>
  some r1
def ma (a:ay) (b:List (List (List Nat))) (k1:Nat) (k2:Nat) (l3:List Nat):Option (List Nat) :=
  iy ((k1:Nat):Int) ((k2:Nat):Int) a b >>= fun r4 =>
  bif r4 then
    cI 8 l3 ([1]:List Nat) >>= fun l5 =>
    some l5
  else
    cI 8 l3 ([0]:List Nat) >>= fun l6 =>
    some l6
def lZ (a:ay) (b:List (List (List Nat))) (r1:Int) (k1:Nat) (l1:List (List Nat)):Option (List (List Nat)) :=
  du (fun k2 (st:(List Nat))=>ma a b k1 k2 st) ((max 0 (r1).toNat) - 0) 0 ([]:List Nat) >>= fun l4 =>
  cI 24 l1 ([l4]:List (List Nat)) >>= fun l7 =>
  some l7
def ic (r5:(List (List Nat)) × Int × (List (List ao))) (r6:Int) (k3:Nat) (k4:Nat) (l11:List (List Bool)):Option (List (List Bool)) :=
  l11[k3]? >>= fun x5 =>
  r5.1[k4]? >>= fun x6 =>
  dW x6 r6 >>= fun r9 =>
  r9[k3]? >>= fun x7 =>
  cI 1 x5 ([((x7:Nat):Int) != (0:Int)]:List Bool) >>= fun l13 =>
  some (l11.set k3 l13) >>= fun l14 =>
  some l14
def eW (r5:(List (List Nat)) × Int × (List (List ao))) (r6:Int) (k3:Nat) (l9:List (List Bool)):Option (List (List Bool)) :=
  ow (max 0 (r6).toNat) >>= fun u2 =>
  du (fun k4 (st:(List (List Bool)))=>ic r5 r6 k3 k4 st) ((max 0 (r6).toNat) - 0) 0 l9 >>= fun l12 =>
  some l12
def fp (a:ay) (b:List (List (List Nat))):Option ((List (List Bool)) × Int × (List (List ao))) :=
  bu a >>= fun r1 =>
  ow (max 0 (r1).toNat) >>= fun u1 =>
  du (fun k1 (st:(List (List Nat)))=>lZ a b r1 k1 st) ((max 0 (r1).toNat) - 0) 0 ([]:List (List Nat)) >>= fun l2 =>
  ce a.zn l2 >>= fun r5 =>
  bu (⟨(⟨a.zn.zw,r5.2.1,r5.2.2,a.zn.al⟩:ai),a.zp,a.zd,a.a9,a.bV,a.dh⟩:ay) >>= fun r6 =>
  oY 24 r6 r6 ([]:List Bool) >>= fun l8 =>
  du (fun k3 (st:(List (List Bool)))=>eW r5 r6 k3 st) (l8.length - 0) 0 l8 >>= fun l10 =>
  some (l10,r5.2.1,r5.2.2)
def pZ (a:ay) (k2:Nat) (x5:List (List (List Nat))) (k3:Nat) (l5:List Nat):Option (List Nat) :=
  x5[k3]? >>= fun x7 =>
  rA ((k2:Nat):Int) >>= fun r5 =>
  fe a.zp x7 r5 >>= fun r6 =>
  cI 8 l5 r6 >>= fun l7 =>
  some l7
def na (a:ay) (k1:Nat) (x2:List Bool) (k2:Nat) (l3:List Nat):Option (List Nat) :=
  x2[k2]? >>= fun x4 =>
  bif x4 then
    a.zd.S[k1]? >>= fun x5 =>
    du (fun k3 (st:(List Nat))=>pZ a k2 x5 k3 st) (x5.length - 0) 0 l3 >>= fun l6 =>
    some l6
  else
    some l3
def m9 (a:ay) (k1:Nat) (l1:List (List Nat)):Option (List (List Nat)) :=
  a.a9[k1]? >>= fun x2 =>
  du (fun k2 (st:(List Nat))=>na a k1 x2 k2 st) (x2.length - 0) 0 ([]:List Nat) >>= fun l4 =>
  cI 24 l1 ([l4]:List (List Nat)) >>= fun l8 =>
  some l8
def iU (x8:Int) (k5:Nat) (k6:Nat) (l16:List Nat) (l17:List (List (List Nat))):Option ((List Nat) × (List (List (List Nat)))) :=
  l17[k5]? >>= fun x15 =>
  jA (⟨l16⟩:nN) x8 >>= fun r15 =>
  cI 24 x15 ([r15.1]:List (List Nat)) >>= fun l20 =>
  some (l17.set k5 l20) >>= fun l21 =>
  some (r15.2,l21)
def gB (a:ay) (r7:(List (List Nat)) × Int × (List (List ao))) (x8:Int) (l9:List (List (List (List Nat)))) (k4:Nat) (x11:List Bool) (k5:Nat) (l12:List Nat) (l13:List (List (List Nat))):Option ((List Nat) × (List (List (List Nat)))) :=
  x11[k5]? >>= fun x13 =>
  bif x13 then
    gG (⟨(⟨a.zn.zw,r7.2.1,r7.2.2,a.zn.al⟩:ai),a.zp,a.zd,a.a9,a.bV,l9⟩:ay) ((k4:Nat):Int) >>= fun r13 =>
    ow (max 0 (r13).toNat) >>= fun u3 =>
    du (fun k6 (st:(List Nat) × (List (List (List Nat))))=>iU x8 k5 k6 st.1 st.2) ((max 0 (r13).toNat) - 0) 0 (l12,l13) >>= fun (l18,l19) =>
    some (l18,l19)
  else
    some (l12,l13)
def p5 (a:ay) (r7:(List (List Nat)) × Int × (List (List ao))) (x8:Int) (k4:Nat) (l9:List (List (List (List Nat)))):Option (List (List (List (List Nat)))) :=
  r7.1[k4]? >>= fun x10 =>
  bu (⟨(⟨a.zn.zw,r7.2.1,r7.2.2,a.zn.al⟩:ai),a.zp,a.zd,a.a9,a.bV,l9⟩:ay) >>= fun r11 =>
  oY 24 r11 r11 ([]:List (List Nat)) >>= fun l11 =>
  a.a9[k4]? >>= fun x11 =>
  du (fun k5 (st:(List Nat) × (List (List (List Nat))))=>gB a r7 x8 l9 k4 x11 k5 st.1 st.2) (x11.length - 0) 0 (x10,l11) >>= fun (l14,l15) =>
  cI 24 l9 ([l15]:List (List (List (List Nat)))) >>= fun l22 =>
  some l22
def m7 (a:ay):Option (Int × (List (List ao)) × (List (List (List (List Nat))))) :=
  bu a >>= fun r1 =>
  ow (max 0 (r1).toNat) >>= fun u1 =>
  du (fun k1 (st:(List (List Nat)))=>m9 a k1 st) ((max 0 (r1).toNat) - 0) 0 ([]:List (List Nat)) >>= fun l2 =>
  ce a.zn l2 >>= fun r7 =>
  bk (⟨a.zn.zw,r7.2.1,r7.2.2,a.zn.al⟩:ai) >>= fun r8 =>
  e6 r8.S.T (1:Int) >>= fun x8 =>
  bu (⟨(⟨a.zn.zw,r7.2.1,r7.2.2,a.zn.al⟩:ai),a.zp,a.zd,a.a9,a.bV,a.dh⟩:ay) >>= fun r9 =>
  ow (max 0 (r9).toNat) >>= fun u2 =>
  du (fun k4 (st:(List (List (List (List Nat)))))=>p5 a r7 x8 k4 st) ((max 0 (r9).toNat) - 0) 0 a.dh >>= fun l10 =>
  some (r7.2.1,r7.2.2,l10)
def jW (a:ay) (b:Int) (c:Int) (k1:Nat) (x4:List (List Nat)) (k2:Nat):Option (Out Unit Bool) :=
  x4[k2]? >>= fun x5 =>
  rA b >>= fun r3 =>
  iM a.zp x5 r3 >>= fun r4 =>
  lY a b c ((k2:Nat):Int) >>= fun r5 =>
  rA ((k1:Nat):Int) >>= fun r6 =>
  iM a.zp r5 r6 >>= fun r7 =>
  bif ((r4:Nat):Int) != ((r7:Nat):Int) then
    some (.fin true)
  else
    some (.go ())
def jV (a:ay) (b:Int) (c:Int) (x3:List (List (List Nat))) (k1:Nat):Option (Out Unit Bool) :=
  x3[k1]? >>= fun x4 =>
  oL (fun k2 (st:Unit)=>jW a b c k1 x4 k2) (x4.length - 0) 0 () >>= fun r2=>j6 r2 (fun x=>some (.fin x)) fun _ =>
  some (.go ())
def dL (a:ay) (b:Int) (c:Int):Option Bool :=
  hZ a.a9 c >>= fun x1 =>
  hZ x1 b >>= fun x2 =>
  bif x2 then
    some false
  else
    hZ a.dh c >>= fun x3 =>
    oL (fun k1 (st:Unit)=>jV a b c x3 k1) (x3.length - 0) 0 () >>= fun r1=>j6 r1 (fun x=>some x) fun _ =>
    some false
def kq (a:ay) (k1:Nat) (k2:Nat) (l3:List Nat):Option (List Nat) :=
  dL a ((k1:Nat):Int) ((k2:Nat):Int) >>= fun r4 =>
  bif r4 then
    cI 8 l3 ([1]:List Nat) >>= fun l5 =>
    some l5
  else
    cI 8 l3 ([0]:List Nat) >>= fun l6 =>
    some l6
def kp (a:ay) (r1:Int) (k1:Nat) (l1:List (List Nat)):Option (List (List Nat)) :=
  du (fun k2 (st:(List Nat))=>kq a k1 k2 st) ((max 0 (r1).toNat) - 0) 0 ([]:List Nat) >>= fun l4 =>
  cI 24 l1 ([l4]:List (List Nat)) >>= fun l7 =>
  some l7
def kv (r5:(List (List Nat)) × Int × (List (List ao))) (r6:Int) (k3:Nat) (k4:Nat) (l11:List (List Bool)):Option (List (List Bool)) :=
  l11[k3]? >>= fun x5 =>
  r5.1[k4]? >>= fun x6 =>
  dW x6 r6 >>= fun r9 =>
  r9[k3]? >>= fun x7 =>
  cI 1 x5 ([((x7:Nat):Int) != (0:Int)]:List Bool) >>= fun l13 =>
  some (l11.set k3 l13) >>= fun l14 =>
  some l14
def ku (r5:(List (List Nat)) × Int × (List (List ao))) (r6:Int) (k3:Nat) (l9:List (List Bool)):Option (List (List Bool)) :=
  ow (max 0 (r6).toNat) >>= fun u2 =>
  du (fun k4 (st:(List (List Bool)))=>kv r5 r6 k3 k4 st) ((max 0 (r6).toNat) - 0) 0 l9 >>= fun l12 =>
  some l12
def eB (a:ay):Option ((List (List Bool)) × Int × (List (List ao))) :=
  bu a >>= fun r1 =>
  ow (max 0 (r1).toNat) >>= fun u1 =>
  du (fun k1 (st:(List (List Nat)))=>kp a r1 k1 st) ((max 0 (r1).toNat) - 0) 0 ([]:List (List Nat)) >>= fun l2 =>
  ce a.zn l2 >>= fun r5 =>
  bu (⟨(⟨a.zn.zw,r5.2.1,r5.2.2,a.zn.al⟩:ai),a.zp,a.zd,a.a9,a.bV,a.dh⟩:ay) >>= fun r6 =>
  oY 24 r6 r6 ([]:List Bool) >>= fun l8 =>
  du (fun k3 (st:(List (List Bool)))=>ku r5 r6 k3 st) (l8.length - 0) 0 l8 >>= fun l10 =>
  some (l10,r5.2.1,r5.2.2)
def nM (a:ay) (b:Int) (k1:Nat) (x1:Int):Option Int :=
  hZ a.a9 b >>= fun x4 =>
  x4[k1]? >>= fun x5 =>
  bif x5 then
    e6 x1 (1:Int) >>= fun x6 =>
    some x6
  else
    hZ a.bV b >>= fun x7 =>
    x7[k1]? >>= fun x8 =>
    bif x8 then
      e6 x1 (1:Int) >>= fun x9 =>
      some x9
    else
      some x1
def nR (a:ay) (b:Int):Option Bool :=
  bu a >>= fun r1 =>
  ow (max 0 (r1).toNat) >>= fun u1 =>
  du (fun k1 (st:Int)=>nM a b k1 st) ((max 0 (r1).toNat) - 0) 0 ((0:Nat):Int) >>= fun x3 =>
  bk a.zn >>= fun r3 =>
  some (decide (x3 > r3.S.T))
def pY (a:ay) (k1:Nat) (l2:List (List Nat)):Option (List (List Nat)) :=
  bk a.zn >>= fun r3 =>
  e6 r3.S.T (1:Int) >>= fun x2 =>
  oY 8 x2 x2 (0:Nat) >>= fun l4 =>
  l2[k1]? >>= fun x3 =>
  some (l2.set k1 l4) >>= fun l5 =>
  some l5
def m0 (a:ay) (b:Int) (c:Int) (d:Bool):Option (List (List Nat)) :=
  bif d then
    gG a c >>= fun r1 =>
    oY 24 r1 r1 (([]:List Nat):List Nat) >>= fun l1 =>
    du (fun k1 (st:(List (List Nat)))=>pY a k1 st) (l1.length - 0) 0 l1 >>= fun l3 =>
    some l3
  else
    hZ a.a9 c >>= fun x4 =>
    hZ x4 b >>= fun x5 =>
    bif x5 then
      hZ a.dh c >>= fun x6 =>
      hZ x6 b >>= fun x7 =>
      some x7
    else
      hZ a.zd.Rows b >>= fun x8 =>
      hZ x8 c >>= fun x9 =>
      bW x9 >>= fun r4 =>
      some r4
def rK (a:ai) (b:aS) (r1:ae) (r3:(List (List Bool)) × Int × (List (List ao))) (r4:Int × (List (List ao)) × (List (List (List (List Nat))))) (r5:(List (List Bool)) × Int × (List (List ao))) (k1:Nat) (l1:List Bool):Option (List Bool) :=
  nR (⟨(⟨a.zw,r5.2.1,r5.2.2,a.al⟩:ai),r1.S.P,b,r3.1,r5.1,r4.2.2⟩:ay) ((k1:Nat):Int) >>= fun r8 =>
  cI 1 l1 ([r8]:List Bool) >>= fun l3 =>
  some l3
def rM (a:ai) (b:aS) (r1:ae) (r3:(List (List Bool)) × Int × (List (List ao))) (r4:Int × (List (List ao)) × (List (List (List (List Nat))))) (r5:(List (List Bool)) × Int × (List (List ao))) (l2:List Bool) (k2:Nat) (k3:Nat) (l6:List (List (List Nat))):Option (List (List (List Nat))) :=
  l2[k3]? >>= fun x4 =>
  m0 (⟨(⟨a.zw,r5.2.1,r5.2.2,a.al⟩:ai),r1.S.P,b,r3.1,r5.1,r4.2.2⟩:ay) ((k2:Nat):Int) ((k3:Nat):Int) x4 >>= fun r11 =>
  cI 24 l6 ([r11]:List (List (List Nat))) >>= fun l8 =>
  some l8
def rL (a:ai) (b:aS) (r1:ae) (r3:(List (List Bool)) × Int × (List (List ao))) (r4:Int × (List (List ao)) × (List (List (List (List Nat))))) (r5:(List (List Bool)) × Int × (List (List ao))) (r6:Int) (l2:List Bool) (k2:Nat) (l4:List (List (List (List Nat)))):Option (List (List (List (List Nat)))) :=
  du (fun k3 (st:(List (List (List Nat))))=>rM a b r1 r3 r4 r5 l2 k2 k3 st) ((max 0 (r6).toNat) - 0) 0 ([]:List (List (List Nat))) >>= fun l7 =>
  cI 24 l4 ([l7]:List (List (List (List Nat)))) >>= fun l9 =>
  some l9
def oV (a:ai) (b:aS):Option (bi × Int × (List (List ao))) :=
  bk a >>= fun r1 =>
  kB (⟨a,r1.S.P,b,([]:List (List Bool)),([]:List (List Bool)),([]:List (List (List (List Nat))))⟩:ay) >>= fun r2 =>
  fp (⟨(⟨a.zw,r2.2.1,r2.2.2,a.al⟩:ai),r1.S.P,b,([]:List (List Bool)),([]:List (List Bool)),([]:List (List (List (List Nat))))⟩:ay) r2.1 >>= fun r3 =>
  m7 (⟨(⟨a.zw,r3.2.1,r3.2.2,a.al⟩:ai),r1.S.P,b,r3.1,([]:List (List Bool)),([]:List (List (List (List Nat))))⟩:ay) >>= fun r4 =>
  eB (⟨(⟨a.zw,r4.1,r4.2.1,a.al⟩:ai),r1.S.P,b,r3.1,([]:List (List Bool)),r4.2.2⟩:ay) >>= fun r5 =>
  bu (⟨(⟨a.zw,r5.2.1,r5.2.2,a.al⟩:ai),r1.S.P,b,r3.1,r5.1,r4.2.2⟩:ay) >>= fun r6 =>
  ow (max 0 (r6).toNat) >>= fun u1 =>
  du (fun k1 (st:(List Bool))=>rK a b r1 r3 r4 r5 k1 st) ((max 0 (r6).toNat) - 0) 0 ([]:List Bool) >>= fun l2 =>
  du (fun k2 (st:(List (List (List (List Nat)))))=>rL a b r1 r3 r4 r5 r6 l2 k2 st) ((max 0 (r6).toNat) - 0) 0 ([]:List (List (List (List Nat)))) >>= fun l5 =>
  some ((⟨l5,l2⟩:bi),r5.2.1,r5.2.2)
def tt (a:ai) (b:List (List (List Nat))):Option (bi × Int × (List (List ao)) × (List aC)) :=
  jX a b >>= fun r1 =>
  oV (⟨a.zw,r1.2.1,r1.2.2.1,r1.2.2.2⟩:ai) r1.1 >>= fun r2 =>
  some (r2.1,r2.2.1,r2.2.2,r1.2.2.2)
def qV (a:bi) (b:Int) (c:Int) (k1:Nat) (l1:List (List Nat)):Option (List (List Nat)) :=
  a.Rows[k1]? >>= fun x2 =>
  kG b (1:Int) >>= fun x3 =>
  hZ x2 x3 >>= fun x4 =>
  hZ x4 c >>= fun x5 =>
  cI 24 l1 ([x5]:List (List Nat)) >>= fun l3 =>
  some l3
def lX (a:bi) (b:Int) (c:Int):Option (List (List Nat)) :=
  du (fun k1 (st:(List (List Nat)))=>qV a b c k1 st) (a.Rows.length - 0) 0 ([]:List (List Nat)) >>= fun l2 =>
  some l2
def fP (a:bj) (b:Int) (c:Int):Option ((List (List Nat)) × (List (List Nat))) :=
  nG (2:Int) c >>= fun x1 =>
  lX a.zd b x1 >>= fun r1 =>
  e6 x1 (1:Int) >>= fun x2 =>
  lX a.zd b x2 >>= fun r2 =>
  some (r1,r2)
def gM (a:bj) (b:Int) (c:List Nat) (d:List Nat):Option Bool :=
  d[0]? >>= fun x1 =>
  some (q9 b) >>= fun x2 =>
  c[0]? >>= fun x3 =>
  dB a.zs.P x2 x3 >>= fun r1 =>
  some (((x1:Nat):Int) == ((r1:Nat):Int))
def gn (a:Int) (b:bj) (r1:(List Nat)) (k1:Nat) (l1:List aN):Option (List aN) :=
  r1[k1]? >>= fun x3 =>
  yd ((k1:Nat):Int) b.zm >>= fun x4 =>
  (
    bif ((x3:Nat):Int) != (0:Int) then
      hZ b.zd.be x4 >>= fun x6 =>
      some (!x6)
    else
      some false
  ) >>= fun x5 =>
  bif x5 then
    e6 x4 (1:Int) >>= fun x7 =>
    GC ((k1:Nat):Int) b.zm >>= fun x8 =>
    cI 24 l1 ([(⟨a,x7,x8⟩:aN)]:List aN) >>= fun l3 =>
    some l3
  else
    some l1
def fj (a:Int) (b:List Nat) (c:bj) (d:List aN):Option (List aN) :=
  nG c.zs.N c.zm >>= fun x1 =>
  dW b x1 >>= fun r1 =>
  du (fun k1 (st:(List aN))=>gn a c r1 k1 st) (r1.length - 0) 0 d >>= fun l2 =>
  some l2
def gW (a:bj) (k1:Nat) (k2:Nat) (k3:Nat) (l5:List Nat):Option (List Nat) :=
  fP a ((k2:Nat):Int) ((k3:Nat):Int) >>= fun r4 =>
  kG ((k1:Nat):Int) (1:Int) >>= fun x4 =>
  hZ r4.1 x4 >>= fun x5 =>
  hZ r4.2 x4 >>= fun x6 =>
  gM a ((k1:Nat):Int) x5 x6 >>= fun r5 =>
  bif r5 then
    cI 8 l5 ([0]:List Nat) >>= fun l7 =>
    some l7
  else
    cI 8 l5 ([1]:List Nat) >>= fun l8 =>
    some l8
def gV (a:bj) (k1:Nat) (k2:Nat) (l3:List Nat):Option (List Nat) :=
  ow (max 0 (a.zm).toNat) >>= fun u2 =>
  du (fun k3 (st:(List Nat))=>gW a k1 k2 k3 st) ((max 0 (a.zm).toNat) - 0) 0 l3 >>= fun l6 =>
  some l6
def gU (a:bj) (k1:Nat) (l1:List (List Nat)):Option (List (List Nat)) :=
  du (fun k2 (st:(List Nat))=>gV a k1 k2 st) ((max 1 (a.zs.N+1).toNat) - 1) 1 ([]:List Nat) >>= fun l4 =>
  cI 24 l1 ([l4]:List (List Nat)) >>= fun l9 =>
  some l9
def gX (a:bj) (r6:(List (List Nat)) × Int × (List (List ao))) (k4:Nat) (l10:List aN):Option (List aN) :=
  r6.1[k4]? >>= fun x8 =>
  e6 ((k4:Nat):Int) (1:Int) >>= fun x9 =>
  fj x9 x8 (⟨(⟨a.zn.zw,r6.2.1,r6.2.2,a.zn.al⟩:ai),a.zs,a.zm,a.zd⟩:bj) l10 >>= fun r8 =>
  some r8
def fW (a:bj):Option ((List aN) × Int × (List (List ao))) :=
  ow (max 1 (a.zs.N+1).toNat) >>= fun u1 =>
  du (fun k1 (st:(List (List Nat)))=>gU a k1 st) ((max 1 (a.zs.N+1).toNat) - 1) 1 ([]:List (List Nat)) >>= fun l2 =>
  ce a.zn l2 >>= fun r6 =>
  du (fun k4 (st:(List aN))=>gX a r6 k4 st) (r6.1.length - 0) 0 ([]:List aN) >>= fun l11 =>
  some (l11,r6.2.1,r6.2.2)
def lN (k1:Nat) (x2:List Nat) (k2:Nat) (l4:List (List (List Nat))):Option (List (List (List Nat))) :=
  l4[k1]? >>= fun x4 =>
  cI 24 x4 ([x2]:List (List Nat)) >>= fun l6 =>
  some (l4.set k1 l6) >>= fun l7 =>
  some l7
def lM (a:List (List Nat)) (k1:Nat) (l2:List (List (List Nat))):Option (List (List (List Nat))) :=
  a[k1]? >>= fun x2 =>
  du (fun k2 (st:(List (List (List Nat))))=>lN k1 x2 k2 st) (a.length - 0) 0 l2 >>= fun l5 =>
  some l5
def lQ (k3:Nat) (r6:(List Nat)) (k5:Nat) (l15:List (List (List Nat))):Option (List (List (List Nat))) :=
  r6[k5]? >>= fun x11 =>
  l15[k3]? >>= fun x12 =>
  x12[k5]? >>= fun x13 =>
  cI 8 x13 ([x11]:List Nat) >>= fun l17 =>
  some (x12.set k5 l17) >>= fun l18 =>
  some (l15.set k3 l18) >>= fun l19 =>
  some l19
def lP (a:Int) (k3:Nat) (x7:List (List Nat)) (k4:Nat) (l13:List (List (List Nat))):Option (List (List (List Nat))) :=
  x7[k4]? >>= fun x9 =>
  dW x9 a >>= fun r6 =>
  du (fun k5 (st:(List (List (List Nat))))=>lQ k3 r6 k5 st) (r6.length - 0) 0 l13 >>= fun l16 =>
  some l16
def lO (a:Int) (r3:(List (List (List Nat))) × Int × (List (List ao))) (k3:Nat) (l9:List (List (List Nat))):Option (List (List (List Nat))) :=
  oY 24 a a ([]:List Nat) >>= fun l11 =>
  l9[k3]? >>= fun x6 =>
  some (l9.set k3 l11) >>= fun l12 =>
  r3.1[k3]? >>= fun x7 =>
  du (fun k4 (st:(List (List (List Nat))))=>lP a k3 x7 k4 st) (x7.length - 0) 0 l12 >>= fun l14 =>
  some l14
def lB (a:ai) (b:List (List Nat)) (c:Int):Option ((List (List (List Nat))) × Int × (List (List ao))) :=
  oY 24 ((b.length:Nat):Int) ((b.length:Nat):Int) ([]:List (List Nat)) >>= fun l1 =>
  du (fun k1 (st:(List (List (List Nat))))=>lM b k1 st) (b.length - 0) 0 l1 >>= fun l3 =>
  io a l3 >>= fun r3 =>
  oY 24 ((r3.1.length:Nat):Int) ((r3.1.length:Nat):Int) ([]:List (List Nat)) >>= fun l8 =>
  du (fun k3 (st:(List (List (List Nat))))=>lO c r3 k3 st) (r3.1.length - 0) 0 l8 >>= fun l10 =>
  some (l10,r3.2.1,r3.2.2)
def km (a:List Nat) (k1:Nat) (l1:List aJ):Option (List aJ) :=
  a[k1]? >>= fun x2 =>
  e6 ((k1:Nat):Int) (1:Int) >>= fun x3 =>
  some (q9 x3) >>= fun x4 =>
  cI 16 l1 ([(⟨x4,x2⟩:aJ)]:List aJ) >>= fun l3 =>
  some l3
def dX (a:List Nat):Option (List aJ) :=
  du (fun k1 (st:(List aJ))=>km a k1 st) (a.length - 0) 0 ([]:List aJ) >>= fun l2 =>
  some l2
def mu (a:List aJ) (k1:Nat) (l1:List (Int × Bool)):Option (Out (List (Int × Bool)) Bool) :=
  a[k1]? >>= fun x6 =>
  bif (n3 l1 ((x6.X:Nat):Int)).getD false then
    some (.fin false)
  else
    some (.go (vt l1 ((x6.X:Nat):Int) true))
def mh (a:List aJ) (b:Int) (c:Int):Option Bool :=
  (
    bif decide (b < (0:Int)) then
      some true
    else
      bif decide (c < (0:Int)) then
        some true
      else
        bif decide (c > ((a.length:Nat):Int)) then
          some true
        else
          bif decide (b > ((a.length:Nat):Int)) then
            some true
          else
            e6 b (1:Int) >>= fun x2 =>
            nG (2:Int) c >>= fun x3 =>
            e6 x2 x3 >>= fun x4 =>
            some (decide (((a.length:Nat):Int) < x4))
  ) >>= fun x1 =>
  bif x1 then
    some false
  else
    oL (fun k1 (st:(List (Int × Bool)))=>mu a k1 st) (a.length - 0) 0 ([]:List (Int × Bool)) >>= fun r1=>j6 r1 (fun x=>some x) fun l2 =>
    some true
def mC (a:Nat) (b:Nat):Option Nat :=
  bif ((b:Nat):Int) == (0:Int) then
    some 0
  else
    some (yg a b) >>= fun x1 =>
    some x1
def qi (a:List Nat) (b:List (List Nat)):Option Bool :=
  b[0]? >>= fun x1 =>
  some (((a.length:Nat):Int) != ((x1.length:Nat):Int))
def cM (a:List (List Nat)) (b:List (List Nat)) (k1:Nat):Option (Out Unit Int) :=
  a[k1]? >>= fun x1 =>
  qi x1 b >>= fun r2 =>
  bif r2 then
    some (.fin ((k1:Nat):Int))
  else
    some (.go ())
def cU (a:List (List Nat)) (b:List (List Nat)):Option Int :=
  oL (fun k1 (st:Unit)=>cM a b k1) (a.length - 0) 0 () >>= fun r1=>j6 r1 (fun x=>some x) fun _ =>
  some (-1)
def cL (a:List (List Nat)) (b:List (List Nat)):Option Bool :=
  cU a b >>= fun r1 =>
  some (decide (r1 ≥ (0:Int)))
def pU (a:List (List Nat)):Option Bool :=
  cL a a >>= fun r1 =>
  some (!r1)
def pT (a:List (List Nat)):Option Int :=
  bif ((a.length:Nat):Int) == (0:Int) then
    some ((0:Nat):Int)
  else
    a[0]? >>= fun x1 =>
    some ((x1.length:Nat):Int)
def mP (a:Nat) (x1:Nat) (x2:Nat) (x3:Nat):Option (Out (Nat × Nat × Nat) Nat) :=
  bif decide (((x2:Nat):Int) > (0:Int)) then
    some (wK x2 1) >>= fun x6 =>
    bif ((x6:Nat):Int) == (1:Int) then
      dB a x3 x1 >>= fun r2 =>
      dB a x1 x1 >>= fun r3 =>
      uS x2 (1:Int) >>= fun x7 =>
      some (.go (r3,x7,r2))
    else
      dB a x1 x1 >>= fun r4 =>
      uS x2 (1:Int) >>= fun x8 =>
      some (.go (r4,x8,x3))
  else
    some (.fin x3)
def tc (a:Nat) (b:Nat) (c:Nat):Option Nat :=
  uW (fun (st:Nat × Nat × Nat)=>mP a st.1 st.2.1 st.2.2) big (b,c,1) >>= fun x5 =>
  some x5
def kb (a:Nat) (b:Nat):Option (Nat × Int) :=
  bif ((b:Nat):Int) == (0:Int) then
    some (0,((8:Nat):Int))
  else
    some (yg a 2) >>= fun x1 =>
    tc a b x1 >>= fun r1 =>
    some (r1,((0:Nat):Int))
def oX (a:Nat) (b:Nat) (c:Nat):Option Nat :=
  mC a c >>= fun r1 =>
  ka a b r1 >>= fun r2 =>
  some r2
def nE (k1:Nat) (l1:List (List Nat)):Option (List (List Nat)) :=
  l1[k1]? >>= fun x2 =>
  cm x2 >>= fun r3 =>
  some (l1.set k1 r3) >>= fun l3 =>
  some l3
def im (l4:List (List Nat)) (k2:Nat) (x6:Int) (x7:Int):Option (Out (Int × Int) Int) :=
  (
    bif decide (x7 < ((l4.length:Nat):Int)) then
      some (decide (x6 < (0:Int)))
    else
      some false
  ) >>= fun x10 =>
  bif x10 then
    hZ l4 x7 >>= fun x11 =>
    x11[k2]? >>= fun x12 =>
    bif ((x12:Nat):Int) != (0:Int) then
      e6 x7 (1:Int) >>= fun x13 =>
      some (.go (x7,x13))
    else
      e6 x7 (1:Int) >>= fun x14 =>
      some (.go (x6,x14))
  else
    some (.fin x6)
def lu (a:Nat) (l5:List Int) (x18:List Nat) (r8:Nat × Int) (k3:Nat) (l10:List (List Nat)):Option (List (List Nat)) :=
  x18[k3]? >>= fun x21 =>
  l10[l5.length]? >>= fun x22 =>
  x22[k3]? >>= fun x23 =>
  dB a r8.1 x23 >>= fun r10 =>
  some (x22.set k3 r10) >>= fun l12 =>
  some (l10.set l5.length l12) >>= fun l13 =>
  some l13
def lx (a:Nat) (l5:List Int) (k4:Nat) (x25:List Nat) (x28:Nat) (x29:List Nat) (k5:Nat) (l16:List (List Nat)):Option (List (List Nat)) :=
  x29[k5]? >>= fun x31 =>
  l16[l5.length]? >>= fun x32 =>
  x32[k5]? >>= fun x33 =>
  x25[k5]? >>= fun x34 =>
  l16[k4]? >>= fun x35 =>
  x35[k5]? >>= fun x36 =>
  dB a x28 x33 >>= fun r13 =>
  oX a x36 r13 >>= fun r14 =>
  some (x35.set k5 r14) >>= fun l18 =>
  some (l16.set k4 l18) >>= fun l19 =>
  some l19
def lv (a:Nat) (l5:List Int) (k2:Nat) (k4:Nat) (l14:List (List Nat)):Option (List (List Nat)) :=
  l14[k4]? >>= fun x25 =>
  (
    bif ((k4:Nat):Int) == ((l5.length:Nat):Int) then
      some true
    else
      x25[k2]? >>= fun x27 =>
      some (((x27:Nat):Int) == (0:Int))
  ) >>= fun x26 =>
  bif x26 then
    some l14
  else
    x25[k2]? >>= fun x28 =>
    l14[l5.length]? >>= fun x29 =>
    ow x29.length >>= fun u4 =>
    du (fun k5 (st:(List (List Nat)))=>lx a l5 k4 x25 x28 x29 k5 st) (x29.length - 0) 0 l14 >>= fun l17 =>
    some l17
def il (a:Nat) (k2:Nat) (l4:List (List Nat)) (l5:List Int) (x3:Nat):Option ((List (List Nat)) × (List Int) × Nat) :=
  uW (fun (st:Int × Int)=>im l4 k2 st.1 st.2) big ((-1),((l5.length:Nat):Int)) >>= fun x9 =>
  bif decide (x9 < (0:Int)) then
    some (l4,l5,x3)
  else
    (
      bif x9 != ((l5.length:Nat):Int) then
        l4[l5.length]? >>= fun x16 =>
        hZ l4 x9 >>= fun x17 =>
        some ((l4.set x9.toNat x16).set l5.length x17) >>= fun l9 =>
        mC a x3 >>= fun r6 =>
        some (l9,r6)
      else
        some (l4,x3)
    ) >>= fun (l8,x15) =>
    l8[l5.length]? >>= fun x18 =>
    x18[k2]? >>= fun x19 =>
    dB a x15 x19 >>= fun r7 =>
    kb a x19 >>= fun r8 =>
    ow x18.length >>= fun u3 =>
    du (fun k3 (st:(List (List Nat)))=>lu a l5 x18 r8 k3 st) (x18.length - 0) 0 l8 >>= fun l11 =>
    du (fun k4 (st:(List (List Nat)))=>lv a l5 k2 k4 st) (l11.length - 0) 0 l11 >>= fun l15 =>
    cI 8 l5 ([((k2:Nat):Int)]:List Int) >>= fun l20 =>
    some (l15,l20,r7)
def nQ (a:Nat) (b:List (List Nat)) (c:Int):Option mb :=
  bW b >>= fun r1 =>
  ow r1.length >>= fun u1 =>
  du (fun k1 (st:(List (List Nat)))=>nE k1 st) (r1.length - 0) 0 r1 >>= fun l2 =>
  ow (max 0 (c).toNat) >>= fun u2 =>
  du (fun k2 (st:(List (List Nat)) × (List Int) × Nat)=>il a k2 st.1 st.2.1 st.2.2) ((max 0 (c).toNat) - 0) 0 (l2,([]:List Int),1) >>= fun (l6,l7,x5) =>
  some (⟨a,l6,l7,x5⟩:mb)
def mg (a:List (List Nat)) (b:List Nat) (k1:Nat) (l1:List (List Nat)):Option (List (List Nat)) :=
  a[k1]? >>= fun x3 =>
  cm x3 >>= fun r4 =>
  b[k1]? >>= fun x4 =>
  cI 8 r4 ([x4]:List Nat) >>= fun l3 =>
  cI 24 l1 ([l3]:List (List Nat)) >>= fun l4 =>
  some l4
def oz (r2:Int) (l5:List (List Nat)) (k2:Nat):Option (Out Unit ((List Nat) × Int)) :=
  l5[k2]? >>= fun x5 =>
  hZ x5 r2 >>= fun x6 =>
  bif ((x6:Nat):Int) != (0:Int) then
    some (.fin (([]:List Nat),((6:Nat):Int)))
  else
    some (.go ())
def oA (r2:Int) (r5:mb) (k3:Nat) (l7:List Nat):Option (List Nat) :=
  r5.zpivot[k3]? >>= fun x8 =>
  r5.zm[k3]? >>= fun x9 =>
  hZ x9 r2 >>= fun x10 =>
  hZ l7 x8 >>= fun x11 =>
  some (l7.set x8.toNat x10) >>= fun l9 =>
  some l9
def oS (a:Nat) (b:List (List Nat)) (c:List Nat):Option ((List Nat) × Int) :=
  (
    pU b >>= fun r1 =>
    bif !r1 then
      some true
    else
      some (((b.length:Nat):Int) != ((c.length:Nat):Int))
  ) >>= fun x1 =>
  bif x1 then
    some (([]:List Nat),((1:Nat):Int))
  else
    pT b >>= fun r2 =>
    du (fun k1 (st:(List (List Nat)))=>mg b c k1 st) (b.length - 0) 0 ([]:List (List Nat)) >>= fun l2 =>
    nQ a l2 r2 >>= fun r5 =>
    qH r5.zm ((r5.zpivot.length:Nat):Int) ((r5.zm.length:Nat):Int) >>= fun l5 =>
    oL (fun k2 (st:Unit)=>oz r2 l5 k2) (l5.length - 0) 0 () >>= fun r6=>j6 r6 (fun x=>some x) fun _ =>
    oY 8 r2 r2 (0:Nat) >>= fun l6 =>
    du (fun k3 (st:(List Nat))=>oA r2 r5 k3 st) (r5.zpivot.length - 0) 0 l6 >>= fun l8 =>
    some (l8,((0:Nat):Int))
def fN (a:Nat) (x2:aJ) (k2:Nat) (l5:List Nat) (x5:Nat):Option ((List Nat) × Nat) :=
  cI 8 l5 ([x5]:List Nat) >>= fun l7 =>
  dB a x5 x2.X >>= fun r3 =>
  some (l7,r3)
def fO (a:Nat) (x2:aJ) (k3:Nat) (l8:List Nat) (x8:Nat):Option ((List Nat) × Nat) :=
  mC a x8 >>= fun r5 =>
  cI 8 l8 ([r5]:List Nat) >>= fun l10 =>
  dB a x8 x2.X >>= fun r6 =>
  some (l10,r6)
def iw (a:Nat) (b:List aJ) (c:Int) (d:Int) (k1:Nat) (l1:List (List Nat)) (l2:List Nat):Option ((List (List Nat)) × (List Nat)) :=
  b[k1]? >>= fun x2 =>
  e6 c d >>= fun x3 =>
  e6 x3 (1:Int) >>= fun x4 =>
  ow (max 0 (x4).toNat) >>= fun u1 =>
  du (fun k2 (st:(List Nat) × Nat)=>fN a x2 k2 st.1 st.2) ((max 0 (x4).toNat) - 0) 0 (([]:List Nat),1) >>= fun (l6,x7) =>
  ow (max 0 (d).toNat) >>= fun u2 =>
  du (fun k3 (st:(List Nat) × Nat)=>fO a x2 k3 st.1 st.2) ((max 0 (d).toNat) - 0) 0 (l6,x2.Y) >>= fun (l9,x10) =>
  cI 24 l1 ([l9]:List (List Nat)) >>= fun l11 =>
  cI 8 l2 ([x10]:List Nat) >>= fun l12 =>
  some (l11,l12)
def j7 (a:Nat) (b:List aJ) (c:Int) (d:Int):Option ((List Nat) × (List Nat) × Bool) :=
  du (fun k1 (st:(List (List Nat)) × (List Nat))=>iw a b c d k1 st.1 st.2) (b.length - 0) 0 (([]:List (List Nat)),([]:List Nat)) >>= fun (l3,l4) =>
  oS a l3 l4 >>= fun r7 =>
  bif r7.2 != (0:Int) then
    some (([]:List Nat),([]:List Nat),false)
  else
    e6 c d >>= fun x11 =>
    e6 x11 (1:Int) >>= fun x12 =>
    qH r7.1 (0:Int) x12 >>= fun l13 =>
    qH r7.1 x12 ((r7.1.length:Nat):Int) >>= fun l14 =>
    cI 8 ([]:List Nat) l14 >>= fun l15 =>
    cI 8 l15 ([1]:List Nat) >>= fun l16 =>
    some (l13,l16,true)
def pE (a:List Nat) (x2:Int):Option (Out Int (Int ⊕ Unit)) :=
  bif decide (x2 ≥ (0:Int)) then
    hZ a x2 >>= fun x3 =>
    bif ((x3:Nat):Int) != (0:Int) then
      some (.fin (.inl x2))
    else
      kG x2 (1:Int) >>= fun x4 =>
      some (.go x4)
  else
    some (.fin (.inr ()))
def oa (a:List Nat):Option Int :=
  kG ((a.length:Nat):Int) (1:Int) >>= fun x1 =>
  uW (fun (st:Int)=>pE a st) big x1 >>= fun r1=>GP r1 (fun x=>some x) fun _ =>
  some (-1)
def iO (a:List Nat):Option (List Nat) :=
  oa a >>= fun r1 =>
  e6 r1 (1:Int) >>= fun x1 =>
  qH a (0:Int) x1 >>= fun l1 =>
  cI 8 ([]:List Nat) l1 >>= fun l2 =>
  some l2
def pF (a:Nat) (r1:(List Nat)) (x6:Int) (r5:Nat) (k1:Nat) (l9:List Nat):Option (List Nat) :=
  r1[k1]? >>= fun x11 =>
  e6 x6 ((k1:Nat):Int) >>= fun x12 =>
  hZ l9 x12 >>= fun x13 =>
  dB a r5 x11 >>= fun r7 =>
  oX a x13 r7 >>= fun r8 =>
  some (l9.set x12.toNat r8) >>= fun l11 =>
  some l11
def jv (a:Nat) (r1:(List Nat)) (r2:Nat × Int) (l2:List Nat) (l3:List Nat):Option (Out ((List Nat) × (List Nat)) ((List Nat) × (List Nat))) :=
  bif decide (((l2.length:Nat):Int) ≥ ((r1.length:Nat):Int)) then
    kG ((l2.length:Nat):Int) ((r1.length:Nat):Int) >>= fun x6 =>
    kG ((l2.length:Nat):Int) (1:Int) >>= fun x7 =>
    hZ l2 x7 >>= fun x8 =>
    dB a x8 r2.1 >>= fun r5 =>
    hZ l3 x6 >>= fun x9 =>
    some (l3.set x6.toNat r5) >>= fun l8 =>
    du (fun k1 (st:(List Nat))=>pF a r1 x6 r5 k1 st) (r1.length - 0) 0 l2 >>= fun l10 =>
    iO l10 >>= fun r9 =>
    some (.go (r9,l8))
  else
    some (.fin (l2,l3))
def pV (a:Nat) (b:List Nat) (c:List Nat):Option ((List Nat) × (List Nat) × Int) :=
  iO c >>= fun r1 =>
  bif ((r1.length:Nat):Int) == (0:Int) then
    some (([]:List Nat),([]:List Nat),((8:Nat):Int))
  else
    kG ((r1.length:Nat):Int) (1:Int) >>= fun x1 =>
    hZ r1 x1 >>= fun x2 =>
    kb a x2 >>= fun r2 =>
    iO b >>= fun r3 =>
    kG ((r3.length:Nat):Int) ((r1.length:Nat):Int) >>= fun x3 =>
    e6 x3 (1:Int) >>= fun x4 =>
    some (max (0:Int) x4) >>= fun x5 =>
    oY 8 x5 x5 (0:Nat) >>= fun l1 =>
    uW (fun (st:(List Nat) × (List Nat))=>jv a r1 r2 st.1 st.2) big (r3,l1) >>= fun (l6,l7) =>
    iO l7 >>= fun r10 =>
    some (r10,l6,((0:Nat):Int))
def gm (a:Nat) (b:List Nat) (c:List aJ) (k1:Nat) (l1:List Int):Option (List Int) :=
  c[k1]? >>= fun x2 =>
  iM a b x2.X >>= fun r2 =>
  bif ((r2:Nat):Int) != ((x2.Y:Nat):Int) then
    cI 8 l1 ([((k1:Nat):Int)]:List Int) >>= fun l3 =>
    some l3
  else
    some l1
def fi (a:Nat) (b:List Nat) (c:List aJ):Option (List Int) :=
  du (fun k1 (st:(List Int))=>gm a b c k1 st) (c.length - 0) 0 ([]:List Int) >>= fun l2 =>
  some l2
def dY (a:Nat) (b:List aJ) (c:Int) (d:Int):Option ((List Nat) × (List Int) × Int) :=
  mh b c d >>= fun r1 =>
  bif !r1 then
    some (([]:List Nat),([]:List Int),((1:Nat):Int))
  else
    j7 a b c d >>= fun r2 =>
    bif !r2.2.2 then
      some (([]:List Nat),([]:List Int),((9:Nat):Int))
    else
      pV a r2.1 r2.2.1 >>= fun r3 =>
      (
        bif decide (((r3.2.1.length:Nat):Int) > (0:Int)) then
          some true
        else
          oa r3.1 >>= fun r4 =>
          some (decide (r4 > c))
      ) >>= fun x1 =>
      bif x1 then
        some (([]:List Nat),([]:List Int),((9:Nat):Int))
      else
        fi a r3.1 b >>= fun r5 =>
        bif decide (((r5.length:Nat):Int) > d) then
          some (([]:List Nat),([]:List Int),((9:Nat):Int))
        else
          some (r3.1,r5,((0:Nat):Int))
def eA (a:Int):Option (List Nat) :=
  bif decide (a < (0:Int)) then
    none
  else
    kG a (0:Int) >>= fun x1 =>
    bif decide (x1 > (0:Int)) then
      oY 8 x1 x1 (0:Nat) >>= fun l1 =>
      qH l1 (0:Int) (0:Int) >>= fun l2 =>
      some l2
    else
      some ([]:List Nat)
def db (a:List (List Nat)) (k1:Nat) (x1:Int):Option Int :=
  a[k1]? >>= fun x4 =>
  e6 x1 ((x4.length:Nat):Int) >>= fun x5 =>
  bif decide (x5 < (0:Int)) then
    none
  else
    some x5
def dc (a:List (List Nat)) (k2:Nat) (l1:List Nat):Option (List Nat) :=
  a[k2]? >>= fun x7 =>
  cI 8 l1 x7 >>= fun l3 =>
  some l3
def eY (a:List (List Nat)):Option (List Nat) :=
  du (fun k1 (st:Int)=>db a k1 st) (a.length - 0) 0 ((0:Nat):Int) >>= fun x3 =>
  eA x3 >>= fun r2 =>
  du (fun k2 (st:(List Nat))=>dc a k2 st) (a.length - 0) 0 r2 >>= fun l2 =>
  some l2
def lJ (a:List (List (List Nat))) (b:List Int) (r1:ae) (k1:Nat) (k2:Nat) (l5:List (List Nat)):Option (List (List Nat)) :=
  a[k2]? >>= fun x3 =>
  l5[k1]? >>= fun x4 =>
  x3[k1]? >>= fun x5 =>
  b[k2]? >>= fun x6 =>
  some (q9 x6) >>= fun x7 =>
  iM r1.S.P x5 x7 >>= fun r4 =>
  cI 8 x4 ([r4]:List Nat) >>= fun l7 =>
  some (l5.set k1 l7) >>= fun l8 =>
  some l8
def lI (a:List (List (List Nat))) (b:List Int) (r1:ae) (k1:Nat) (l3:List (List Nat)):Option (List (List Nat)) :=
  du (fun k2 (st:(List (List Nat)))=>lJ a b r1 k1 k2 st) (a.length - 0) 0 l3 >>= fun l6 =>
  some l6
def lL (r1:ae) (k3:Nat) (x9:List (List Nat)) (k4:Nat) (l11:List (List (List Nat))):Option (List (List (List Nat))) :=
  x9[k4]? >>= fun x11 =>
  dX x11 >>= fun r8 =>
  dY r1.S.P r8 r1.S.T r1.S.T >>= fun r9 =>
  l11[k3]? >>= fun x12 =>
  e6 r1.S.T (1:Int) >>= fun x13 =>
  kG x13 ((r9.1.length:Nat):Int) >>= fun x14 =>
  oY 8 x14 x14 (0:Nat) >>= fun l13 =>
  eY ([r9.1,l13]:List (List Nat)) >>= fun r10 =>
  cI 24 x12 ([r10]:List (List Nat)) >>= fun l14 =>
  some (l11.set k3 l14) >>= fun l15 =>
  some l15
def lK (r1:ae) (r5:(List (List (List Nat))) × Int × (List (List ao))) (k3:Nat) (l9:List (List (List Nat))):Option (List (List (List Nat))) :=
  r5.1[k3]? >>= fun x9 =>
  du (fun k4 (st:(List (List (List Nat))))=>lL r1 k3 x9 k4 st) (x9.length - 0) 0 l9 >>= fun l12 =>
  some l12
def iq (a:ai) (b:List (List (List Nat))) (c:List Int):Option ((List (List (List Nat))) × Int × (List (List ao))) :=
  bk a >>= fun r1 =>
  oY 24 r1.S.N r1.S.N ([]:List (List Nat)) >>= fun l1 =>
  bif ((b.length:Nat):Int) == (0:Int) then
    some (l1,a.af,a.av)
  else
    oY 24 r1.S.N r1.S.N ([]:List Nat) >>= fun l2 =>
    du (fun k1 (st:(List (List Nat)))=>lI b c r1 k1 st) (l2.length - 0) 0 l2 >>= fun l4 =>
    lB a l4 ((b.length:Nat):Int) >>= fun r5 =>
    du (fun k3 (st:(List (List (List Nat))))=>lK r1 r5 k3 st) (r5.1.length - 0) 0 l1 >>= fun l10 =>
    some (l10,r5.2.1,r5.2.2)
def em (a:bj) (b:List aN) (k1:Nat) (l2:List (List (List Nat))) (l3:List Int):Option ((List (List (List Nat))) × (List Int)) :=
  b[k1]? >>= fun x2 =>
  fP a x2.zdealer x2.zk >>= fun r2 =>
  cI 24 l2 ([r2.1,r2.2]:List (List (List Nat))) >>= fun l6 =>
  cI 8 l3 ([x2.zby,x2.zby]:List Int) >>= fun l7 =>
  some (l6,l7)
def jT (a:bj) (b:List aN) (r3:(List (List (List Nat))) × Int × (List (List ao))) (k2:Nat) (l8:List Bool):Option (List Bool) :=
  b[k2]? >>= fun x4 =>
  r3.1[0]? >>= fun x5 =>
  nG (2:Int) ((k2:Nat):Int) >>= fun x6 =>
  hZ x5 x6 >>= fun x7 =>
  e6 x6 (1:Int) >>= fun x8 =>
  hZ x5 x8 >>= fun x9 =>
  gM (⟨(⟨a.zn.zw,r3.2.1,r3.2.2,a.zn.al⟩:ai),a.zs,a.zm,a.zd⟩:bj) x4.zby x7 x9 >>= fun r5 =>
  bif !r5 then
    kG x4.zdealer (1:Int) >>= fun x10 =>
    hZ l8 x10 >>= fun x11 =>
    some (l8.set x10.toNat true) >>= fun l10 =>
    some l10
  else
    some l8
def jp (a:bj) (b:List aN):Option ((List Bool) × Int × (List (List ao))) :=
  cI 1 ([]:List Bool) a.zd.be >>= fun l1 =>
  du (fun k1 (st:(List (List (List Nat))) × (List Int))=>em a b k1 st.1 st.2) (b.length - 0) 0 (([]:List (List (List Nat))),([]:List Int)) >>= fun (l4,l5) =>
  iq a.zn l4 l5 >>= fun r3 =>
  du (fun k2 (st:(List Bool))=>jT a b r3 k2 st) (b.length - 0) 0 l1 >>= fun l9 =>
  some (l9,r3.2.1,r3.2.2)
def pI (a:aM) (b:Nat) (k1:Nat) (l1:List (List Nat)):Option (List (List Nat)) :=
  e6 a.T (1:Int) >>= fun x2 =>
  oY 8 x2 x2 (0:Nat) >>= fun l3 =>
  l3[0]? >>= fun x3 =>
  some (l3.set 0 b) >>= fun l4 =>
  cI 24 l1 ([l4]:List (List Nat)) >>= fun l5 =>
  some l5
def ml (a:aM) (b:Nat):Option (List (List Nat)) :=
  ow (max 0 (a.N).toNat) >>= fun u1 =>
  du (fun k1 (st:(List (List Nat)))=>pI a b k1 st) ((max 0 (a.N).toNat) - 0) 0 ([]:List (List Nat)) >>= fun l2 =>
  some l2
def nJ (a:Nat) (b:Nat) (c:Nat):Option Nat :=
  ka c a b >>= fun r1 =>
  some r1
def cY (a:List Nat) (b:List Nat) (c:Nat) (k1:Nat) (l2:List Nat):Option (List Nat) :=
  a[k1]? >>= fun x2 =>
  b[k1]? >>= fun x3 =>
  nJ x2 x3 c >>= fun r2 =>
  l2[k1]? >>= fun x4 =>
  some (l2.set k1 r2) >>= fun l4 =>
  some l4
def dx (a:List Nat) (b:List Nat) (c:Nat):Option (List Nat) :=
  oY 8 ((a.length:Nat):Int) ((a.length:Nat):Int) (0:Nat) >>= fun l1 =>
  du (fun k1 (st:(List Nat))=>cY a b c k1 st) (a.length - 0) 0 l1 >>= fun l3 =>
  some l3
def mX (a:List Nat) (b:List Nat) (c:Nat):Option (List Nat) :=
  dx a b c >>= fun r1 =>
  some r1
def cX (a:List (List Nat)) (b:List (List Nat)) (c:Nat) (k1:Nat) (l2:List (List Nat)):Option (List (List Nat)) :=
  a[k1]? >>= fun x2 =>
  b[k1]? >>= fun x3 =>
  mX x2 x3 c >>= fun r2 =>
  l2[k1]? >>= fun x4 =>
  some (l2.set k1 r2) >>= fun l4 =>
  some l4
def dw (a:List (List Nat)) (b:List (List Nat)) (c:Nat):Option (List (List Nat)) :=
  oY 24 ((a.length:Nat):Int) ((a.length:Nat):Int) (([]:List Nat):List Nat) >>= fun l1 =>
  du (fun k1 (st:(List (List Nat)))=>cX a b c k1 st) (a.length - 0) 0 l1 >>= fun l3 =>
  some l3
def jU (a:Nat) (b:List (List Nat)) (c:List (List Nat)):Option (List (List Nat)) :=
  dw b c a >>= fun r1 =>
  some r1
def pH (a:Nat) (b:List (List Nat)) (c:List (List Nat)):Option (List (List Nat)) :=
  jU a b c >>= fun r1 =>
  some r1
def dP (a:ai) (b:Int) (r1:ae) (k1:Nat) (l2:List aC) (l3:List (List (List (List Nat)))) (l4:List Bool) (l5:List (List (List Nat))):Option ((List aC) × (List (List (List (List Nat)))) × (List Bool) × (List (List (List Nat)))) :=
  jS (⟨(⟨a.zw,a.af,a.av,l2⟩:ai),r1.S,b,(⟨l3,l4⟩:bi)⟩:bj) ((k1:Nat):Int) >>= fun r3 =>
  cI 24 l5 ([r3.1]:List (List (List Nat))) >>= fun l10 =>
  some (r3.2,l3,l4,l10)
def jy (a:ai) (b:Int) (r1:ae) (r4:bi × Int × (List (List ao)) × (List aC)) (r6:(List Bool) × Int × (List (List ao))) (k2:Nat) (k3:Nat) (l13:List (List Nat)):Option (List (List Nat)) :=
  kG ((k3:Nat):Int) (1:Int) >>= fun x4 =>
  hZ r6.1 x4 >>= fun x5 =>
  bif !x5 then
    fP (⟨(⟨a.zw,r6.2.1,r6.2.2,r4.2.2.2⟩:ai),r1.S,b,r4.1⟩:bj) ((k3:Nat):Int) ((k2:Nat):Int) >>= fun r10 =>
    pH r1.S.P l13 r10.2 >>= fun r11 =>
    some r11
  else
    some l13
def gA (a:ai) (b:Int) (r1:ae) (r4:bi × Int × (List (List ao)) × (List aC)) (r6:(List Bool) × Int × (List (List ao))) (k2:Nat) (l11:List (List (List Nat))):Option (List (List (List Nat))) :=
  ml r1.S 0 >>= fun r8 =>
  du (fun k3 (st:(List (List Nat)))=>jy a b r1 r4 r6 k2 k3 st) ((max 1 (r1.S.N+1).toNat) - 1) 1 r8 >>= fun l14 =>
  cI 24 l11 ([l14]:List (List (List Nat))) >>= fun l15 =>
  some l15
def dA (a:ai) (b:Int):Option ((List (List (List Nat))) × (List Bool) × Int × (List (List ao)) × (List aC)) :=
  bk a >>= fun r1 =>
  bif b == (0:Int) then
    oY 1 r1.S.N r1.S.N (false:Bool) >>= fun l1 =>
    some (([]:List (List (List Nat))),l1,a.af,a.av,a.al)
  else
    ow (max 1 (r1.S.N+1).toNat) >>= fun u1 =>
    du (fun k1 (st:(List aC) × (List (List (List (List Nat)))) × (List Bool) × (List (List (List Nat))))=>dP a b r1 k1 st.1 st.2.1 st.2.2.1 st.2.2.2) ((max 1 (r1.S.N+1).toNat) - 1) 1 (a.al,([]:List (List (List (List Nat)))),([]:List Bool),([]:List (List (List Nat)))) >>= fun (l6,l7,l8,l9) =>
    tt (⟨a.zw,a.af,a.av,l6⟩:ai) l9 >>= fun r4 =>
    fW (⟨(⟨a.zw,r4.2.1,r4.2.2.1,r4.2.2.2⟩:ai),r1.S,b,r4.1⟩:bj) >>= fun r5 =>
    jp (⟨(⟨a.zw,r5.2.1,r5.2.2,r4.2.2.2⟩:ai),r1.S,b,r4.1⟩:bj) r5.1 >>= fun r6 =>
    ow (max 0 (b).toNat) >>= fun u2 =>
    du (fun k2 (st:(List (List (List Nat))))=>gA a b r1 r4 r6 k2 st) ((max 0 (b).toNat) - 0) 0 ([]:List (List (List Nat))) >>= fun l12 =>
    some (l12,r6.1,r6.2.1,r6.2.2,r4.2.2.2)
def qk (a:List Nat) (b:List Nat) (k1:Nat):Option (Out Unit Bool) :=
  a[k1]? >>= fun x1 =>
  b[k1]? >>= fun x2 =>
  bif ((x1:Nat):Int) != ((x2:Nat):Int) then
    some (.fin false)
  else
    some (.go ())
def nk (a:List Nat) (b:List Nat):Option Bool :=
  bif ((a.length:Nat):Int) != ((b.length:Nat):Int) then
    some false
  else
    oL (fun k1 (st:Unit)=>qk a b k1) (a.length - 0) 0 () >>= fun r1=>j6 r1 (fun x=>some x) fun _ =>
    some true
def sM (a:List (List Nat)) (b:List (List Nat)) (k1:Nat):Option (Out Unit Bool) :=
  a[k1]? >>= fun x1 =>
  b[k1]? >>= fun x2 =>
  nk x1 x2 >>= fun r2 =>
  bif !r2 then
    some (.fin false)
  else
    some (.go ())
def pW (a:List (List Nat)) (b:List (List Nat)):Option Bool :=
  bif ((a.length:Nat):Int) != ((b.length:Nat):Int) then
    some false
  else
    oL (fun k1 (st:Unit)=>sM a b k1) (a.length - 0) 0 () >>= fun r1=>j6 r1 (fun x=>some x) fun _ =>
    some true
def mr (a:ai):Option Int :=
  some a.af
def rJ (a:aM) (b:Int):Option Int :=
  e6 a.T (1:Int) >>= fun x1 =>
  nG a.T x1 >>= fun x2 =>
  e6 a.T x2 >>= fun x3 =>
  nG b x3 >>= fun x4 =>
  some x4
def mt  : Option Bool :=
  mE (⟨(⟨31,((4:Nat):Int),((1:Nat):Int)⟩:aM),([]:List Int),([]:List aR),([([5,7,9]:List Nat),([1,1,1]:List Nat),([2,0,20]:List Nat),([3,4,0]:List Nat)]:List (List Nat))⟩:ae) >>= fun r1 =>
  Eo r1 (fun r2 =>
    some false)
  (fun r3 =>
    dA r3 ((1:Nat):Int) >>= fun r4 =>
    oY 24 (4:Int) (4:Int) (([]:List Nat):List Nat) >>= fun l1 =>
    mE (⟨(⟨31,((4:Nat):Int),((1:Nat):Int)⟩:aM),([]:List Int),([]:List aR),l1⟩:ae) >>= fun r5 =>
    Eo r5 (fun r6 =>
      some false)
    (fun r7 =>
      (
        bif ((r4.1.length:Nat):Int) != (1:Int) then
          some true
        else
          some (((r4.2.1.length:Nat):Int) != (4:Int))
      ) >>= fun x1 =>
      bif x1 then
        some false
      else
        dA r7 ((0:Nat):Int) >>= fun r8 =>
        r4.1[0]? >>= fun x2 =>
        pW x2 ([([11,10]:List Nat),([22,9]:List Nat),([2,8]:List Nat),([13,7]:List Nat)]:List (List Nat)) >>= fun r9 =>
        bif r9 then
          r4.2.1[0]? >>= fun x3 =>
          bif !x3 then
            mr (⟨r3.zw,r4.2.2.1,r4.2.2.2.1,r4.2.2.2.2⟩:ai) >>= fun r10 =>
            bif r10 == (8:Int) then
              fK (⟨r3.zw,r4.2.2.1,r4.2.2.2.1,r4.2.2.2.2⟩:ai) ((2:Nat):Int) >>= fun r11 =>
              r4.2.2.2.2[r11]? >>= fun x4 =>
              jq x4 >>= fun r12 =>
              bif r12 == (0:Int) then
                rJ (⟨31,((4:Nat):Int),((1:Nat):Int)⟩:aM) ((2:Nat):Int) >>= fun r13 =>
                bif r13 == (6:Int) then
                  bif ((r8.1.length:Nat):Int) == (0:Int) then
                    bif ((r8.2.1.length:Nat):Int) == (4:Int) then
                      mr (⟨r7.zw,r8.2.2.1,r8.2.2.2.1,r8.2.2.2.2⟩:ai) >>= fun r14 =>
                      some (r14 == (0:Int))
                    else
                      some false
                  else
                    some false
                else
                  some false
              else
                some false
            else
              some false
          else
            some false
        else
          some false))
def mS  : Option (List Int) :=
  some ([((5:Nat):Int),((7:Nat):Int),((13:Nat):Int),((17:Nat):Int),((19:Nat):Int),((31:Nat):Int),((61:Nat):Int)]:List Int)
def fV (a:Nat) (r1:(List Int)) (k1:Nat):Option (Out Unit Int) :=
  r1[k1]? >>= fun x1 =>
  some (q9 x1) >>= fun x2 =>
  Cc 1 ((x2:Nat):Int) >>= fun x3 =>
  some (yg x3 1) >>= fun x4 =>
  bif ((a:Nat):Int) == ((x4:Nat):Int) then
    some (.fin x1)
  else
    some (.go ())
def kg (a:Nat):Option Int :=
  mS >>= fun r1 =>
  oL (fun k1 (st:Unit)=>fV a r1 k1) (r1.length - 0) 0 () >>= fun r2=>j6 r2 (fun x=>some x) fun _ =>
  some ((0:Nat):Int)
def fg (a:Nat):Option Bool :=
  kg a >>= fun r1 =>
  some (decide (r1 > (0:Int)))
def iv (a:aM):Option Bool :=
  fg a.P >>= fun r1 =>
  bif r1 then
    bif decide (a.N ≥ (4:Int)) then
      bif decide (a.N≤(13:Int)) then
        some (q9 a.N) >>= fun x1 =>
        bif decide (((x1:Nat):Int) < ((a.P:Nat):Int)) then
          bif decide (a.T ≥ (1:Int)) then
            bif decide (a.T < a.N) then
              nG (3:Int) a.T >>= fun x2 =>
              some (decide (x2 < a.N))
            else
              some false
          else
            some false
        else
          some false
      else
        some false
    else
      some false
  else
    some false
def fM (a:aM) (b:List Int) (k1:Nat):Option (Out Unit Bool) :=
  b[k1]? >>= fun x2 =>
  bif decide (x2 < (1:Int)) then
    some (.fin false)
  else
    bif decide (x2 > a.N) then
      some (.fin false)
    else
      bif decide (((k1:Nat):Int) > (0:Int)) then
        kG ((k1:Nat):Int) (1:Int) >>= fun x3 =>
        hZ b x3 >>= fun x4 =>
        bif decide (x2≤x4) then
          some (.fin false)
        else
          some (.go ())
      else
        some (.go ())
def fb (a:aM) (b:List Int):Option Bool :=
  (
    iv a >>= fun r1 =>
    bif !r1 then
      some true
    else
      some (decide (((b.length:Nat):Int) > a.T))
  ) >>= fun x1 =>
  bif x1 then
    some false
  else
    oL (fun k1 (st:Unit)=>fM a b k1) (b.length - 0) 0 () >>= fun r2=>j6 r2 (fun x=>some x) fun _ =>
    some true
def gT (a:aM) (b:aR):Option Bool :=
  bif decide (b.Round ≥ (0:Int)) then
    bif decide (b.At ≥ (0:Int)) then
      bif decide (b.bB ≥ (0:Int)) then
        bif decide (b.From ≥ (1:Int)) then
          bif decide (b.From≤a.N) then
            bif decide (b.To ≥ (0:Int)) then
              bif decide (b.To≤a.N) then
                bif decide (b.Kind ≥ (1:Int)) then
                  bif decide (b.Kind≤(4:Int)) then
                    bif decide (b.Of ≥ (0:Int)) then
                      bif decide (b.Of≤a.N) then
                        bif b.Kind != (3:Int) then
                          some true
                        else
                          some (decide (b.Of ≥ (1:Int)))
                      else
                        some false
                    else
                      some false
                  else
                    some false
                else
                  some false
              else
                some false
            else
              some false
          else
            some false
        else
          some false
      else
        some false
    else
      some false
  else
    some false
def ki (a:Nat) (b:List Nat) (k1:Nat):Option (Out Unit Bool) :=
  b[k1]? >>= fun x1 =>
  bif decide (((x1:Nat):Int) ≥ ((a:Nat):Int)) then
    some (.fin false)
  else
    some (.go ())
def jN (a:Nat) (b:List Nat):Option Bool :=
  oL (fun k1 (st:Unit)=>ki a b k1) (b.length - 0) 0 () >>= fun r1=>j6 r1 (fun x=>some x) fun _ =>
  some true
def f9 (a:ae) (k1:Nat):Option (Out Unit Bool) :=
  a.aa[k1]? >>= fun x2 =>
  gT a.S x2 >>= fun r4 =>
  bif !r4 then
    some (.fin false)
  else
    some (.go ())
def gf (a:ae) (k2:Nat):Option (Out Unit Bool) :=
  a.aA[k2]? >>= fun x3 =>
  jN a.S.P x3 >>= fun r6 =>
  bif !r6 then
    some (.fin false)
  else
    some (.go ())
def dm (a:ae):Option Bool :=
  (
    iv a.S >>= fun r1 =>
    bif !r1 then
      some true
    else
      fb a.S a.ah >>= fun r2 =>
      bif !r2 then
        some true
      else
        some (((a.aA.length:Nat):Int) != a.S.N)
  ) >>= fun x1 =>
  bif x1 then
    some false
  else
    oL (fun k1 (st:Unit)=>f9 a k1) (a.aa.length - 0) 0 () >>= fun r3=>j6 r3 (fun x=>some x) fun _ =>
    oL (fun k2 (st:Unit)=>gf a k2) (a.aA.length - 0) 0 () >>= fun r5=>j6 r5 (fun x=>some x) fun _ =>
    some true
def kV (a:ae) (b:Int) (k1:Nat):Option (Out Unit Bool) :=
  a.aA[k1]? >>= fun x2 =>
  bif decide (((x2.length:Nat):Int) > b) then
    some (.fin false)
  else
    some (.go ())
def kx (a:ae) (b:Int) (c:Int):Option Bool :=
  (
    bif decide (((a.aa.length:Nat):Int) > b) then
      some true
    else
      bif decide (((a.aA.length:Nat):Int) > (13:Int)) then
        some true
      else
        some (decide (((a.ah.length:Nat):Int) > (13:Int)))
  ) >>= fun x1 =>
  bif x1 then
    some false
  else
    oL (fun k1 (st:Unit)=>kV a c k1) (a.aA.length - 0) 0 () >>= fun r1=>j6 r1 (fun x=>some x) fun _ =>
    dm a >>= fun r2 =>
    some r2
def mV (a:Int):Option Int :=
  e6 a (1:Int) >>= fun x1 =>
  nG a x1 >>= fun x2 =>
  yd x2 (2:Int) >>= fun x3 =>
  some x3
def iS (a:aM) (b:Int):Option Int :=
  mV a.T >>= fun r1 =>
  nG (2:Int) r1 >>= fun x1 =>
  e6 a.T x1 >>= fun x2 =>
  nG b x2 >>= fun x3 =>
  some x3
def kT (a:ae) (b:Int) (k1:Nat):Option (Out Unit Bool) :=
  a.aA[k1]? >>= fun x2 =>
  iS a.S b >>= fun r3 =>
  bif decide (((x2.length:Nat):Int) < r3) then
    some (.fin false)
  else
    some (.go ())
def kw (a:ae) (b:Int) (c:Int):Option Bool :=
  (
    kx a ((10:Nat):Int) ((100:Nat):Int) >>= fun r1 =>
    bif !r1 then
      some true
    else
      bif decide (b < (0:Int)) then
        some true
      else
        bif decide (b > c) then
          some true
        else
          some (decide (a.S.N > (7:Int)))
  ) >>= fun x1 =>
  bif x1 then
    some false
  else
    oL (fun k1 (st:Unit)=>kT a b k1) (a.aA.length - 0) 0 () >>= fun r2=>j6 r2 (fun x=>some x) fun _ =>
    some true
def jR (a:ae) (b:Int) (k1:Nat):Option (Out Unit Bool) :=
  a.ah[k1]? >>= fun x1 =>
  bif x1 == b then
    some (.fin false)
  else
    some (.go ())
def jn (a:ae) (b:Int):Option Bool :=
  oL (fun k1 (st:Unit)=>jR a b k1) (a.ah.length - 0) 0 () >>= fun r1=>j6 r1 (fun x=>some x) fun _ =>
  some true
def fR (a:List Nat) (b:Nat) (k1:Nat):Option (Out Unit Int) :=
  a[k1]? >>= fun x1 =>
  bif ((b:Nat):Int) == ((x1:Nat):Int) then
    some (.fin ((k1:Nat):Int))
  else
    some (.go ())
def gY (a:List Nat) (b:Nat):Option Int :=
  oL (fun k1 (st:Unit)=>fR a b k1) (a.length - 0) 0 () >>= fun r1=>j6 r1 (fun x=>some x) fun _ =>
  some (-1)
def en (a:List Nat) (b:Nat):Option Bool :=
  gY a b >>= fun r1 =>
  some (decide (r1 ≥ (0:Int)))
def ny (a:Int) (b:List Nat) (c:List (List Nat)) (k1:Nat):Option (Out Unit Bool) :=
  b[k1]? >>= fun x3 =>
  qH b (0:Int) ((k1:Nat):Int) >>= fun l1 =>
  en l1 x3 >>= fun r2 =>
  bif r2 then
    some (.fin false)
  else
    c[k1]? >>= fun x4 =>
    e6 a (1:Int) >>= fun x5 =>
    bif ((x4.length:Nat):Int) != x5 then
      some (.fin false)
    else
      some (.go ())
def nP (a:Int) (b:List Nat) (c:List (List Nat)):Option Bool :=
  (
    bif decide (a < (0:Int)) then
      some true
    else
      bif ((b.length:Nat):Int) != ((c.length:Nat):Int) then
        some true
      else
        e6 a (1:Int) >>= fun x2 =>
        some (decide (((c.length:Nat):Int) < x2))
  ) >>= fun x1 =>
  bif x1 then
    some false
  else
    oL (fun k1 (st:Unit)=>ny a b c k1) (b.length - 0) 0 () >>= fun r1=>j6 r1 (fun x=>some x) fun _ =>
    some true
def qh (a:Nat):Option Int :=
  me a >>= fun r1 =>
  some r1
def lq (a:Nat):Option Bool :=
  some (((a:Nat):Int) != ((a:Nat):Int))
def md (a:Nat) (b:Nat):Option Bool :=
  lq a >>= fun r1 =>
  bif r1 then
    lq b >>= fun r2 =>
    bif !r2 then
      some true
    else
      some (decide (((a:Nat):Int) < ((b:Nat):Int)))
  else
    some (decide (((a:Nat):Int) < ((b:Nat):Int)))
def cC (a:Int) (l4:List Nat) (x3:Int):Option (Out ((List Nat) × Int) (List Nat)) :=
  (
    bif decide (x3 > a) then
      hZ l4 x3 >>= fun x5 =>
      kG x3 (1:Int) >>= fun x6 =>
      hZ l4 x6 >>= fun x7 =>
      md x5 x7 >>= fun r3 =>
      some r3
    else
      some false
  ) >>= fun x4 =>
  bif x4 then
    kG x3 (1:Int) >>= fun x8 =>
    hZ l4 x8 >>= fun x9 =>
    hZ l4 x3 >>= fun x10 =>
    some (l4.set x3.toNat x9) >>= fun l7 =>
    hZ l7 x8 >>= fun x11 =>
    some (l7.set x8.toNat x10) >>= fun l8 =>
    some (.go (l8,x8))
  else
    some (.fin l4)
def cA (a:Int) (b:Int) (l1:List Nat) (x2:Int):Option (Out ((List Nat) × Int) (List Nat)) :=
  bif decide (x2 < b) then
    uW (fun (st:(List Nat) × Int)=>cC a st.1 st.2) big (l1,x2) >>= fun l6 =>
    e6 x2 (1:Int) >>= fun x12 =>
    some (.go (l6,x12))
  else
    some (.fin l1)
def dC (a:List Nat) (b:Int) (c:Int):Option (List Nat) :=
  e6 b (1:Int) >>= fun x1 =>
  uW (fun (st:(List Nat) × Int)=>cA b c st.1 st.2) big (a,x1) >>= fun l3 =>
  some l3
def dS (a:List Nat) (b:Int) (c:Int):Option (Out Unit ((List Nat) ⊕ Unit)) :=
  kG c b >>= fun x1 =>
  bif decide (x1≤(12:Int)) then
    dC a b c >>= fun r2 =>
    some (.fin (.inl r2))
  else
    none
def gF (a:List Nat) (b:Int) (c:Int) (d:Int):Option (List Nat) :=
  uW (fun (st:Unit)=>dS a b c) big () >>= fun r1=>GP r1 (fun x=>some x) fun _ =>
  none
def fo (a:List Nat):Option (List Nat) :=
  some (q9 ((a.length:Nat):Int)) >>= fun x1 =>
  qh x1 >>= fun r1 =>
  gF a ((0:Nat):Int) ((a.length:Nat):Int) r1 >>= fun r2 =>
  some r2
def fk (a:List Nat) (x1:Int):Option (Out Int Unit) :=
  bif decide (x1 < ((a.length:Nat):Int)) then
    hZ a x1 >>= fun x2 =>
    kG x1 (1:Int) >>= fun x3 =>
    hZ a x3 >>= fun x4 =>
    bif ((x2:Nat):Int) == ((x4:Nat):Int) then
      none
    else
      e6 x1 (1:Int) >>= fun x5 =>
      some (.go x5)
  else
    some (.fin ())
def eL (a:List Nat):Option (List Nat) :=
  bif decide (((a.length:Nat):Int) < (2:Int)) then
    some a
  else
    uW (fun (st:Int)=>fk a st) big ((1:Nat):Int) >>= fun _ =>
    some a
def jH (a:List Nat):Option Bool :=
  cm a >>= fun r1 =>
  fo r1 >>= fun r2 =>
  eL r2 >>= fun r3 =>
  some (((r3.length:Nat):Int) == ((a.length:Nat):Int))
def oB (a:Int) (l1:List Nat):Option (Out (List Nat) (List Nat)) :=
  bif decide (((l1.length:Nat):Int)≤a) then
    cI 8 l1 ([0]:List Nat) >>= fun l4 =>
    some (.go l4)
  else
    some (.fin l1)
def fU (a:o9) (b:Int) (c:Nat):Option (List Nat) :=
  uW (fun (st:(List Nat))=>oB b st) big a.zf >>= fun l3 =>
  hZ l3 b >>= fun x1 =>
  ka a.zp x1 c >>= fun r2 =>
  some (l3.set b.toNat r2) >>= fun l5 =>
  some l5
def sL (a:Nat) (b:List Nat) (k1:Nat) (x2:Nat) (k2:Nat) (l3:List Nat):Option (List Nat) :=
  b[k2]? >>= fun x4 =>
  e6 ((k1:Nat):Int) ((k2:Nat):Int) >>= fun x5 =>
  dB a x2 x4 >>= fun r3 =>
  fU (⟨a,l3⟩:o9) x5 r3 >>= fun r4 =>
  some r4
def sK (a:Nat) (b:List Nat) (c:List Nat) (k1:Nat) (l1:List Nat):Option (List Nat) :=
  b[k1]? >>= fun x2 =>
  du (fun k2 (st:(List Nat))=>sL a c k1 x2 k2 st) (c.length - 0) 0 l1 >>= fun l4 =>
  some l4
def vx (a:Nat) (b:List Nat) (c:List Nat):Option (List Nat) :=
  du (fun k1 (st:(List Nat))=>sK a b c k1 st) (b.length - 0) 0 ([]:List Nat) >>= fun l2 =>
  iO l2 >>= fun r5 =>
  some r5
def i9 (a:Nat) (b:Nat) (c:List Nat) (d:Nat) (e:aJ):Option ((List Nat) × Nat) :=
  mC b a >>= fun r1 =>
  vx b c ([r1,1]:List Nat) >>= fun r2 =>
  oX b e.X a >>= fun r3 =>
  dB b d r3 >>= fun r4 =>
  some (r2,r4)
def bQ (a:List Nat) (b:Int) (c:Nat) (d:aJ) (k1:Nat) (l1:List Nat) (x1:Nat):Option ((List Nat) × Nat) :=
  a[k1]? >>= fun x4 =>
  bif ((k1:Nat):Int) != b then
    i9 x4 c l1 x1 d >>= fun r2 =>
    some (r2.1,r2.2)
  else
    some (l1,x1)
def cH (a:List Nat) (b:Int) (c:Nat) (d:List Nat) (e:Nat) (f:aJ):Option ((List Nat) × Nat) :=
  du (fun k1 (st:(List Nat) × Nat)=>bQ a b c f k1 st.1 st.2) (a.length - 0) 0 (d,e) >>= fun (l2,x3) =>
  some (l2,x3)
def lr (a:Nat) (b:Nat) (c:Nat):Option Nat :=
  kb a c >>= fun r1 =>
  dB a b r1.1 >>= fun r2 =>
  some r2
def qj (a:Nat) (b:Nat) (c:List Nat) (k1:Nat) (l2:List Nat):Option (List Nat) :=
  c[k1]? >>= fun x2 =>
  dB a b x2 >>= fun r2 =>
  l2[k1]? >>= fun x3 =>
  some (l2.set k1 r2) >>= fun l4 =>
  some l4
def ru (a:Nat) (b:Nat) (c:List Nat):Option (List Nat) :=
  oY 8 ((c.length:Nat):Int) ((c.length:Nat):Int) (0:Nat) >>= fun l1 =>
  du (fun k1 (st:(List Nat))=>qj a b c k1 st) (c.length - 0) 0 l1 >>= fun l3 =>
  iO l3 >>= fun r3 =>
  some r3
def sI (a:Nat) (b:List Nat) (k1:Nat) (l1:List Nat):Option (List Nat) :=
  b[k1]? >>= fun x2 =>
  fU (⟨a,l1⟩:o9) ((k1:Nat):Int) x2 >>= fun r2 =>
  some r2
def sJ (a:Nat) (b:List Nat) (k2:Nat) (l3:List Nat):Option (List Nat) :=
  b[k2]? >>= fun x4 =>
  fU (⟨a,l3⟩:o9) ((k2:Nat):Int) x4 >>= fun r4 =>
  some r4
def vw (a:Nat) (b:List Nat) (c:List Nat):Option (List Nat) :=
  du (fun k1 (st:(List Nat))=>sI a b k1 st) (b.length - 0) 0 ([]:List Nat) >>= fun l2 =>
  du (fun k2 (st:(List Nat))=>sJ a c k2 st) (c.length - 0) 0 l2 >>= fun l4 =>
  iO l4 >>= fun r5 =>
  some r5
def iJ (a:List aJ) (k1:Nat) (l1:List Nat):Option (List Nat) :=
  a[k1]? >>= fun x2 =>
  cI 8 l1 ([x2.X]:List Nat) >>= fun l3 =>
  some l3
def iK (a:Nat) (b:List aJ) (l2:List Nat) (k2:Nat) (l4:List Nat):Option (List Nat) :=
  b[k2]? >>= fun x4 =>
  cH l2 ((k2:Nat):Int) a ([1]:List Nat) 1 x4 >>= fun r4 =>
  lr a x4.Y r4.2 >>= fun r5 =>
  ru a r5 r4.1 >>= fun r6 =>
  vw a l4 r6 >>= fun r7 =>
  some r7
def gQ (a:Nat) (b:List aJ):Option ((List Nat) × Int) :=
  du (fun k1 (st:(List Nat))=>iJ b k1 st) (b.length - 0) 0 ([]:List Nat) >>= fun l2 =>
  jH l2 >>= fun r2 =>
  bif !r2 then
    some (([]:List Nat),((1:Nat):Int))
  else
    du (fun k2 (st:(List Nat))=>iK a b l2 k2 st) (b.length - 0) 0 ([]:List Nat) >>= fun l5 =>
    iO l5 >>= fun r8 =>
    some (r8,((0:Nat):Int))
def oH (a:List Nat) (b:List (List Nat)) (c:Int) (k1:Nat) (l1:List aJ):Option (List aJ) :=
  a[k1]? >>= fun x3 =>
  b[k1]? >>= fun x4 =>
  hZ x4 c >>= fun x5 =>
  cI 16 l1 ([(⟨x3,x5⟩:aJ)]:List aJ) >>= fun l3 =>
  some l3
def jt (a:Nat) (b:Int) (c:List Nat) (d:List (List Nat)) (e:Int):Option ((List Nat) × Int) :=
  e6 b (1:Int) >>= fun x1 =>
  ow (max 0 (x1).toNat) >>= fun u1 =>
  du (fun k1 (st:(List aJ))=>oH c d e k1 st) ((max 0 (x1).toNat) - 0) 0 ([]:List aJ) >>= fun l2 =>
  gQ a l2 >>= fun r2 =>
  oY 8 x1 x1 (0:Nat) >>= fun l4 =>
  some (uj l4 r2.1,r2.2)
def i4 (a:List (List Nat)) (k1:Nat):Option (Out Unit Bool) :=
  a[k1]? >>= fun x1 =>
  bif ((x1.length:Nat):Int) != ((a.length:Nat):Int) then
    some (.fin false)
  else
    some (.go ())
def i6 (a:List (List Nat)) (k2:Nat) (x2:List Nat) (k3:Nat):Option (Out Unit Bool) :=
  x2[k3]? >>= fun x3 =>
  a[k3]? >>= fun x4 =>
  x4[k2]? >>= fun x5 =>
  bif ((x3:Nat):Int) != ((x5:Nat):Int) then
    some (.fin false)
  else
    some (.go ())
def i5 (a:List (List Nat)) (k2:Nat):Option (Out Unit Bool) :=
  a[k2]? >>= fun x2 =>
  ow k2 >>= fun u1 =>
  oL (fun k3 (st:Unit)=>i6 a k2 x2 k3) (k2 - 0) 0 () >>= fun r3=>j6 r3 (fun x=>some (.fin x)) fun _ =>
  some (.go ())
def iD (a:List (List Nat)):Option Bool :=
  oL (fun k1 (st:Unit)=>i4 a k1) (a.length - 0) 0 () >>= fun r1=>j6 r1 (fun x=>some x) fun _ =>
  oL (fun k2 (st:Unit)=>i5 a k2) (a.length - 0) 0 () >>= fun r2=>j6 r2 (fun x=>some x) fun _ =>
  some (decide (((a.length:Nat):Int) > (0:Int)))
def fQ (a:List Nat) (b:List Nat) (k1:Nat):Option (Out Unit Bool) :=
  a[k1]? >>= fun x1 =>
  b[k1]? >>= fun x2 =>
  bif ((x1:Nat):Int) != ((x2:Nat):Int) then
    some (.fin false)
  else
    some (.go ())
def fc (a:List Nat) (b:List Nat):Option Bool :=
  bif ((a.length:Nat):Int) != ((b.length:Nat):Int) then
    some false
  else
    oL (fun k1 (st:Unit)=>fQ a b k1) (a.length - 0) 0 () >>= fun r1=>j6 r1 (fun x=>some x) fun _ =>
    some true
def iY (r3:(List Nat) × Int) (k2:Nat) (l5:List (List Nat)):Option (List (List Nat)) :=
  l5[k2]? >>= fun x4 =>
  r3.1[k2]? >>= fun x5 =>
  cI 8 x4 ([x5]:List Nat) >>= fun l7 =>
  some (l5.set k2 l7) >>= fun l8 =>
  some l8
def iX (a:Nat) (b:Int) (c:List Nat) (d:List (List Nat)) (k1:Nat) (l2:List (List Nat)):Option (Out (List (List Nat)) ((List (List Nat)) × Int)) :=
  jt a b c d ((k1:Nat):Int) >>= fun r3 =>
  bif r3.2 != (0:Int) then
    some (.fin (([]:List (List Nat)),((6:Nat):Int)))
  else
    du (fun k2 (st:(List (List Nat)))=>iY r3 k2 st) (l2.length - 0) 0 l2 >>= fun l6 =>
    some (.go l6)
def iZ (a:Nat) (b:List Nat) (c:List (List Nat)) (l3:List (List Nat)) (k3:Nat):Option (Out Unit ((List (List Nat)) × Int)) :=
  b[k3]? >>= fun x6 =>
  fe a l3 x6 >>= fun r7 =>
  c[k3]? >>= fun x7 =>
  fc r7 x7 >>= fun r8 =>
  bif !r8 then
    some (.fin (([]:List (List Nat)),((6:Nat):Int)))
  else
    some (.go ())
def iC (a:Nat) (b:Int) (c:List Nat) (d:List (List Nat)):Option ((List (List Nat)) × Int) :=
  nP b c d >>= fun r1 =>
  bif !r1 then
    some (([]:List (List Nat)),((1:Nat):Int))
  else
    e6 b (1:Int) >>= fun x1 =>
    oY 24 x1 x1 ([]:List Nat) >>= fun l1 =>
    oL (fun k1 (st:(List (List Nat)))=>iX a b c d k1 st) (l1.length - 0) 0 l1 >>= fun r2=>j6 r2 (fun x=>some x) fun l3 =>
    iD l3 >>= fun r5 =>
    bif !r5 then
      some (([]:List (List Nat)),((6:Nat):Int))
    else
      oL (fun k3 (st:Unit)=>iZ a c d l3 k3) (c.length - 0) 0 () >>= fun r6=>j6 r6 (fun x=>some x) fun _ =>
      some (l3,((0:Nat):Int))
def dG (a:ae) (b:List (List Nat)) (l1:List Nat) (l2:List (List Nat)) (x1:Int):Option (Out ((List Nat) × (List (List Nat)) × Int) ((List Nat) × (List (List Nat)))) :=
  (
    bif decide (x1 < a.S.N) then
      some (decide (x1 < ((b.length:Nat):Int)))
    else
      some false
  ) >>= fun x2 =>
  bif x2 then
    e6 x1 (1:Int) >>= fun x3 =>
    jn a x3 >>= fun r2 =>
    bif r2 then
      some (q9 x3) >>= fun x4 =>
      cI 8 l1 ([x4]:List Nat) >>= fun l7 =>
      hZ b x1 >>= fun x5 =>
      cI 24 l2 ([x5]:List (List Nat)) >>= fun l8 =>
      some (.go (l7,l8,x3))
    else
      some (.go (l1,l2,x3))
  else
    some (.fin (l1,l2))
def fE (a:ae) (b:List (List Nat)):Option ((List (List Nat)) × Bool) :=
  uW (fun (st:(List Nat) × (List (List Nat)) × Int)=>dG a b st.1 st.2.1 st.2.2) big (([]:List Nat),([]:List (List Nat)),((0:Nat):Int)) >>= fun (l5,l6) =>
  iC a.S.P a.S.T l5 l6 >>= fun r3 =>
  bif r3.2 == (0:Int) then
    e6 a.S.T (1:Int) >>= fun x6 =>
    some (r3.1,((r3.1.length:Nat):Int) == x6)
  else
    some (r3.1,false)
def kj (a:Nat) (b:List Nat) (c:Int) (x1:Int):Option (Out Int (Bool ⊕ Unit)) :=
  (
    bif decide (x1 < ((b.length:Nat):Int)) then
      some (decide (x1≤c))
    else
      some false
  ) >>= fun x2 =>
  bif x2 then
    hZ b x1 >>= fun x3 =>
    bif decide (((x3:Nat):Int) ≥ ((a:Nat):Int)) then
      some (.fin (.inl false))
    else
      e6 x1 (1:Int) >>= fun x4 =>
      some (.go x4)
  else
    some (.fin (.inr ()))
def jO (a:Nat) (b:List Nat) (c:Int):Option Bool :=
  uW (fun (st:Int)=>kj a b c st) big ((0:Nat):Int) >>= fun r1=>GP r1 (fun x=>some x) fun _ =>
  some (decide (((b.length:Nat):Int)≤c))
def kU (a:Nat) (b:List (List Nat)) (c:Int) (k1:Nat):Option (Out Unit Bool) :=
  b[k1]? >>= fun x2 =>
  jO a x2 c >>= fun r3 =>
  bif !r3 then
    some (.fin false)
  else
    some (.go ())
def mT (a:Nat) (b:List (List Nat)) (c:Int):Option Bool :=
  (
    fg a >>= fun r1 =>
    bif !r1 then
      some true
    else
      some (decide (((b.length:Nat):Int) > c))
  ) >>= fun x1 =>
  bif x1 then
    some false
  else
    oL (fun k1 (st:Unit)=>kU a b c k1) (b.length - 0) 0 () >>= fun r2=>j6 r2 (fun x=>some x) fun _ =>
    some true
def jP (a:List (List Nat)) (k1:Nat):Option (Out Unit Bool) :=
  a[k1]? >>= fun x1 =>
  bif ((x1.length:Nat):Int) != ((a.length:Nat):Int) then
    some (.fin false)
  else
    some (.go ())
def gL (a:List (List Nat)):Option Bool :=
  oL (fun k1 (st:Unit)=>jP a k1) (a.length - 0) 0 () >>= fun r1=>j6 r1 (fun x=>some x) fun _ =>
  some (decide (((a.length:Nat):Int) > (0:Int)))
def mU (a:Nat) (b:List (List Nat)) (c:Int):Option Bool :=
  mT a b c >>= fun r1 =>
  bif r1 then
    gL b >>= fun r2 =>
    some r2
  else
    some false
def gS (a:List (List Nat)) (k1:Nat) (k2:Nat):Option (Out Unit Bool) :=
  a[k1]? >>= fun x1 =>
  x1[k2]? >>= fun x2 =>
  a[k2]? >>= fun x3 =>
  x3[k1]? >>= fun x4 =>
  bif ((x2:Nat):Int) != ((x4:Nat):Int) then
    some (.fin false)
  else
    some (.go ())
def gR (a:List (List Nat)) (k1:Nat):Option (Out Unit Bool) :=
  ow k1 >>= fun u1 =>
  oL (fun k2 (st:Unit)=>gS a k1 k2) (k1 - 0) 0 () >>= fun r3=>j6 r3 (fun x=>some (.fin x)) fun _ =>
  some (.go ())
def je (a:List (List Nat)):Option Bool :=
  gL a >>= fun r1 =>
  bif !r1 then
    some false
  else
    oL (fun k1 (st:Unit)=>gR a k1) (a.length - 0) 0 () >>= fun r2=>j6 r2 (fun x=>some x) fun _ =>
    some true
def jo (a:aM) (b:List (List Nat)):Option Bool :=
  e6 a.T (1:Int) >>= fun x1 =>
  bif ((b.length:Nat):Int) == x1 then
    mU a.P b ((6:Nat):Int) >>= fun r1 =>
    bif r1 then
      je b >>= fun r2 =>
      some r2
    else
      some false
  else
    some false
def fw (a:Nat) (x1:Nat) (x2:Nat) (x3:Nat):Option (Out (Nat × Nat × Nat) Nat) :=
  bif decide (((x2:Nat):Int) > (0:Int)) then
    uh x2 2 >>= fun x6 =>
    bif ((x6:Nat):Int) == (1:Int) then
      some (nU x3 x1) >>= fun x7 =>
      uh x7 a >>= fun x8 =>
      some (nU x1 x1) >>= fun x9 =>
      uh x9 a >>= fun x10 =>
      Dw x2 2 >>= fun x11 =>
      some (.go (x10,x11,x8))
    else
      some (nU x1 x1) >>= fun x12 =>
      uh x12 a >>= fun x13 =>
      Dw x2 2 >>= fun x14 =>
      some (.go (x13,x14,x3))
  else
    some (.fin x3)
def lA (a:Nat) (b:Nat) (c:Nat):Option Nat :=
  uW (fun (st:Nat × Nat × Nat)=>fw a st.1 st.2.1 st.2.2) big (b,c,0) >>= fun x5 =>
  some x5
def lz (a:Nat) (b:Nat) (c:Nat):Option Nat :=
  some (nU b c) >>= fun x1 =>
  uh x1 a >>= fun x2 =>
  some x2
def eO (a:Nat) (b:List Nat) (c:Nat) (x2:Nat) (x3:Int):Option (Out (Nat × Int) Nat) :=
  bif decide (x3 ≥ (0:Int)) then
    lA a x2 c >>= fun r2 =>
    hZ b x3 >>= fun x6 =>
    lz a r2 x6 >>= fun r3 =>
    kG x3 (1:Int) >>= fun x7 =>
    some (.go (r3,x7))
  else
    some (.fin x2)
def jQ (a:Nat) (b:List Nat) (c:Nat):Option Nat :=
  kG ((b.length:Nat):Int) (1:Int) >>= fun x1 =>
  uW (fun (st:Nat × Int)=>eO a b c st.1 st.2) big (0,x1) >>= fun x5 =>
  some x5
def lH (a:List (List Nat)) (k1:Nat) (k2:Nat) (l3:List Nat):Option (List Nat) :=
  a[k2]? >>= fun x3 =>
  x3[k1]? >>= fun x4 =>
  cI 8 l3 ([x4]:List Nat) >>= fun l5 =>
  some l5
def jm (a:Nat) (b:List (List Nat)) (c:Nat) (k1:Nat) (l1:List Nat):Option (List Nat) :=
  du (fun k2 (st:(List Nat))=>lH b k1 k2 st) (b.length - 0) 0 ([]:List Nat) >>= fun l4 =>
  jQ a l4 c >>= fun r3 =>
  cI 8 l1 ([r3]:List Nat) >>= fun l6 =>
  some l6
def ip (a:Nat) (b:List (List Nat)) (c:Nat):Option (List Nat) :=
  du (fun k1 (st:(List Nat))=>jm a b c k1 st) (b.length - 0) 0 ([]:List Nat) >>= fun l2 =>
  some l2
def oc (a:aM) (b:List (List Nat)) (k1:Nat) (l1:List (List Nat)):Option (List (List Nat)) :=
  some (q9 ((k1:Nat):Int)) >>= fun x2 =>
  ip a.P b x2 >>= fun r2 =>
  cI 24 l1 ([r2]:List (List Nat)) >>= fun l3 =>
  some l3
def ky (a:aM) (b:List (List Nat)):Option (List (List Nat)) :=
  ow (max 1 (a.N+1).toNat) >>= fun u1 =>
  du (fun k1 (st:(List (List Nat)))=>oc a b k1 st) ((max 1 (a.N+1).toNat) - 1) 1 ([]:List (List Nat)) >>= fun l2 =>
  some l2
def mw (a:ai) (b:List (List (List Nat))) (r1:(List (List (List Nat))) × (List Bool) × Int × (List (List ao)) × (List aC)) (k1:Nat) (l1:List (List (List Nat))):Option (List (List (List Nat))) :=
  b[k1]? >>= fun x2 =>
  bk (⟨a.zw,r1.2.2.1,r1.2.2.2.1,r1.2.2.2.2⟩:ai) >>= fun r3 =>
  r1.1[k1]? >>= fun x3 =>
  pH r3.S.P x2 x3 >>= fun r4 =>
  cI 24 l1 ([r4]:List (List (List Nat))) >>= fun l3 =>
  some l3
def mj (a:ai) (b:List (List (List Nat))):Option ((List (List (List Nat))) × Int × (List (List ao)) × (List aC)) :=
  dA a ((b.length:Nat):Int) >>= fun r1 =>
  du (fun k1 (st:(List (List (List Nat))))=>mw a b r1 k1 st) (b.length - 0) 0 ([]:List (List (List Nat))) >>= fun l2 =>
  some (l2,r1.2.2.1,r1.2.2.2.1,r1.2.2.2.2)
def da (r6:ai) (k1:Nat) (x4:Int) (l1:List (List ao)) (l2:List aC) (l3:List (List (List Nat))):Option (Int × (List (List ao)) × (List aC) × (List (List (List Nat)))) :=
  mj (⟨r6.zw,x4,l1,l2⟩:ai) l3 >>= fun r9 =>
  some (r9.2.1,r9.2.2.1,r9.2.2.2,r9.1)
def gE (a:ae) (b:List (List Nat)) (c:Nat):Option Bool :=
  mt >>= fun r1 =>
  bif !r1 then
    some false
  else
    uh c 4 >>= fun x1 =>
    some (NS ((x1:Nat):Int)) >>= fun x2 =>
    (
      kw a x2 ((3:Nat):Int) >>= fun r2 =>
      bif !r2 then
        some true
      else
        jo a.S b >>= fun r3 =>
        some (!r3)
    ) >>= fun x3 =>
    bif x3 then
      some true
    else
      mE a >>= fun r4 =>
      Eo r4 (fun r5 =>
        some false)
      (fun r6 =>
        ky a.S b >>= fun r7 =>
        ow (max 0 (x2).toNat) >>= fun u1 =>
        du (fun k1 (st:Int × (List (List ao)) × (List aC) × (List (List (List Nat))))=>da r6 k1 st.1 st.2.1 st.2.2.1 st.2.2.2) ((max 0 (x2).toNat) - 0) 0 (r6.af,r6.av,r6.al,([r7]:List (List (List Nat)))) >>= fun (x6,l4,l5,l6) =>
        bif ((l6.length:Nat):Int) != (1:Int) then
          some false
        else
          l6[0]? >>= fun x7 =>
          fE a x7 >>= fun r10 =>
          bif r10.2 then
            r10.1[0]? >>= fun x8 =>
            x8[0]? >>= fun x9 =>
            b[0]? >>= fun x10 =>
            x10[0]? >>= fun x11 =>
            some (((x9:Nat):Int) == ((x11:Nat):Int))
          else
            some false)
def tK (x6:Int) (k1:Nat) (l2:List (List Nat)):Option (List (List Nat)) :=
  oY 8 x6 x6 (0:Nat) >>= fun l4 =>
  l2[k1]? >>= fun x8 =>
  some (l2.set k1 l4) >>= fun l5 =>
  some l5
def tM (a:List Nat) (x1:Int) (k2:Nat) (l12:List (List Nat)) (x19:Int) (x20:Int):Option (Out ((List (List Nat)) × Int × Int) ((List (List Nat)) × Int)) :=
  (
    bif decide (x20≤x1) then
      some (decide (((k2:Nat):Int) > (0:Int)))
    else
      some false
  ) >>= fun x23 =>
  bif x23 then
    l12[k2]? >>= fun x24 =>
    hZ l12 x20 >>= fun x25 =>
    hZ a x19 >>= fun x26 =>
    hZ x24 x20 >>= fun x27 =>
    some (x24.set x20.toNat x26) >>= fun l15 =>
    some (l12.set k2 l15) >>= fun l16 =>
    x25[k2]? >>= fun x28 =>
    hZ l16 x20 >>= fun x29 =>
    x29[k2]? >>= fun x30 =>
    some (x29.set k2 x26) >>= fun l17 =>
    some (l16.set x20.toNat l17) >>= fun l18 =>
    e6 x19 (1:Int) >>= fun x31 =>
    e6 x20 (1:Int) >>= fun x32 =>
    some (.go (l18,x31,x32))
  else
    some (.fin (l12,x19))
def tL (a:List Nat) (b:List Nat) (x1:Int) (k2:Nat) (l6:List (List Nat)) (x9:Int):Option ((List (List Nat)) × Int) :=
  l6[0]? >>= fun x12 =>
  l6[k2]? >>= fun x13 =>
  a[k2]? >>= fun x14 =>
  x12[k2]? >>= fun x15 =>
  some (x12.set k2 x14) >>= fun l8 =>
  some (l6.set 0 l8) >>= fun l9 =>
  x13[0]? >>= fun x16 =>
  l9[k2]? >>= fun x17 =>
  x17[0]? >>= fun x18 =>
  some (x17.set 0 x14) >>= fun l10 =>
  some (l9.set k2 l10) >>= fun l11 =>
  uW (fun (st:(List (List Nat)) × Int × Int)=>tM b x1 k2 st.1 st.2.1 st.2.2) big (l11,x9,((k2:Nat):Int)) >>= fun (l14,x22) =>
  some (l14,x22)
def jw (a:List Nat) (b:List Nat):Option ((List (List Nat)) × Int) :=
  kG ((a.length:Nat):Int) (1:Int) >>= fun x1 =>
  (
    bif decide (x1 < (0:Int)) then
      some true
    else
      e6 x1 (1:Int) >>= fun x3 =>
      nG x1 x3 >>= fun x4 =>
      yd x4 (2:Int) >>= fun x5 =>
      some (((b.length:Nat):Int) != x5)
  ) >>= fun x2 =>
  bif x2 then
    some (([]:List (List Nat)),((1:Nat):Int))
  else
    e6 x1 (1:Int) >>= fun x6 =>
    oY 24 x6 x6 ([]:List Nat) >>= fun l1 =>
    ow (max 0 (x1+1).toNat) >>= fun u1 =>
    du (fun k1 (st:(List (List Nat)))=>tK x6 k1 st) ((max 0 (x1+1).toNat) - 0) 0 l1 >>= fun l3 =>
    du (fun k2 (st:(List (List Nat)) × Int)=>tL a b x1 k2 st.1 st.2) ((max 0 (x1+1).toNat) - 0) 0 (l3,((0:Nat):Int)) >>= fun (l7,x11) =>
    some (l7,((0:Nat):Int))
end Pu
