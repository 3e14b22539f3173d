/- Plain functions: what the Go functions compute, over lists and numbers, in Option (none: a run that is not followed). No Go in it. Printed by a program of this claim. -/
import Derived.Test.YtpjenmchinpgaaaGreatDoorWd
set_option linter.unusedVariables false
namespace Pu
open Gw
structure aD where
  P:Nat
  N:Int
  T:Int
structure aO where
  Round:Int
  From:Int
  To:Int
  At:Int
  Kind:Int
  K:Nat
  Of:Int
  bF:Int
structure ae where
  S:aD
  af:List Int
  aa:List aO
  ay:List (List Nat)
structure al where
  Round:Int
  From:Int
  MZ:List Nat
structure aH where
  iF:List Nat
  zat:Int
structure ai where
  zw:ae
  ah:Int
  au:List (List al)
  ak:List aH
structure bm where
  A:List (List Nat)
  B:List (List Nat)
  C:List (List Nat)
structure aS where
  Rows:List (List (List (List Nat)))
  aZ:List Bool
structure aC where
  zn:ai
  zs:aD
  zd:aS
structure pB where
  zp:Nat
  zf:List Nat
structure aT where
  S:List (List (List (List Nat)))
  Rows:List (List (List (List Nat)))
  aN:List (List (List Nat))
structure am where
  zn:ai
  zs:aD
  zq:List (List (List Nat))
  zd:aT
structure ax where
  zn:ai
  zp:Nat
  zd:aT
  bb:List (List Bool)
  bZ:List (List Bool)
  dt:List (List (List (List Nat)))
structure ca where
  e0:Int
  e1:Int
structure nv where
  zl:List Nat
structure aV where
  zby:Int
  zdealer:Int
  zm:Int
structure aJ where
  X:Nat
  Y:Nat
structure lK where
  zp:Nat
  zm:List (List Nat)
  zpivot:List Int
  zdet:Nat
def vb (a:Nat) (k1:Nat):Option (Out Unit Int) :=
  ([5,7,13,17,19,31,61]:List Int)[k1]? >>= fun x1 =>
  Cw 1 x1 >>= fun x2 =>
  some (yx x2 1) >>= fun x3 =>
  bif ((a:Nat):Int) == ((x3:Nat):Int) then
    some (.fin x1)
  else
    some (.go ())
def tt (a:Nat):Option Int :=
  na 7 >>= fun u1 =>
  qQ (fun k1 (st:Unit)=>vb a k1) (7 - 0) 0 () >>= fun r1=>lS r1 (fun x=>some x) fun _ =>
  some ((0:Nat):Int)
def oL (a:Nat):Option Bool :=
  tt a >>= fun r1 =>
  some (r1 != (0:Int))
def pk (a:aD):Option Bool :=
  oL a.P >>= fun r1 =>
  bif r1 then
    bif decide (a.N ≥ (4:Int)) then
      bif decide (a.N≤(13:Int)) then
        some (uu a.N) >>= fun x1 =>
        bif decide (((x1:Nat):Int) < ((a.P:Nat):Int)) then
          bif decide (a.T ≥ (1:Int)) then
            bif decide (a.T < a.N) then
              jl (3:Int) a.T >>= fun x2 =>
              some (decide (x2 < a.N))
            else
              some false
          else
            some false
        else
          some false
      else
        some false
    else
      some false
  else
    some false
def iS (a:aD) (b:List Int) (k1:Nat):Option (Out Unit Bool) :=
  b[k1]? >>= fun x2 =>
  bif decide (x2 < (1:Int)) then
    some (.fin false)
  else
    bif decide (x2 > a.N) then
      some (.fin false)
    else
      bif decide (((k1:Nat):Int) > (0:Int)) then
        i9 ((k1:Nat):Int) (1:Int) >>= fun x3 =>
        gM b x3 >>= fun x4 =>
        bif decide (x4 ≥ x2) then
          some (.fin false)
        else
          some (.go ())
      else
        some (.go ())
def io (a:aD) (b:List Int):Option Bool :=
  (
    pk a >>= fun r1 =>
    bif !r1 then
      some true
    else
      some (decide (((b.length:Nat):Int) > a.T))
  ) >>= fun x1 =>
  bif x1 then
    some false
  else
    qQ (fun k1 (st:Unit)=>iS a b k1) (b.length - 0) 0 () >>= fun r2=>lS r2 (fun x=>some x) fun _ =>
    some true
def sk (a:aD) (b:aO):Option Bool :=
  (
    bif b.Kind == (3:Int) then
      some ((1:Nat):Int)
    else
      some ((0:Nat):Int)
  ) >>= fun x1 =>
  bif decide (b.Round ≥ (0:Int)) then
    bif decide (b.At ≥ (0:Int)) then
      bif decide (b.bF ≥ (0:Int)) then
        bif decide (b.From ≥ (1:Int)) then
          bif decide (b.From≤a.N) then
            bif decide (b.To ≥ (0:Int)) then
              bif decide (b.To≤a.N) then
                bif decide (b.Kind ≥ (1:Int)) then
                  bif decide (b.Kind≤(4:Int)) then
                    bif decide (b.Of ≥ x1) then
                      some (decide (b.Of≤a.N))
                    else
                      some false
                  else
                    some false
                else
                  some false
              else
                some false
            else
              some false
          else
            some false
        else
          some false
      else
        some false
    else
      some false
  else
    some false
def jF (a:aO) (b:ae):Option Bool :=
  sk b.S a >>= fun r1 =>
  some (!r1)
def bP (a:List aO) (b:ae) (k1:Nat):Option (Out Unit Int) :=
  a[k1]? >>= fun x1 =>
  jF x1 b >>= fun r2 =>
  bif r2 then
    some (.fin ((k1:Nat):Int))
  else
    some (.go ())
def bU (a:List aO) (b:ae):Option Int :=
  qQ (fun k1 (st:Unit)=>bP a b k1) (a.length - 0) 0 () >>= fun r1=>lS r1 (fun x=>some x) fun _ =>
  some (-1)
def br (a:List aO) (b:ae):Option Bool :=
  bU a b >>= fun r1 =>
  some (decide (r1 ≥ (0:Int)))
def iT (a:Nat) (b:ae):Option Bool :=
  some (decide (((a:Nat):Int) ≥ ((b.S.P:Nat):Int)))
def ct (a:List Nat) (b:ae) (k1:Nat):Option (Out Unit Int) :=
  a[k1]? >>= fun x1 =>
  iT x1 b >>= fun r2 =>
  bif r2 then
    some (.fin ((k1:Nat):Int))
  else
    some (.go ())
def cG (a:List Nat) (b:ae):Option Int :=
  qQ (fun k1 (st:Unit)=>ct a b k1) (a.length - 0) 0 () >>= fun r1=>lS r1 (fun x=>some x) fun _ =>
  some (-1)
def bK (a:List Nat) (b:ae):Option Bool :=
  cG a b >>= fun r1 =>
  some (decide (r1 ≥ (0:Int)))
def jG (a:List Nat) (b:ae):Option Bool :=
  bK a b >>= fun r1 =>
  some r1
def cq (a:List (List Nat)) (b:ae) (k1:Nat):Option (Out Unit Int) :=
  a[k1]? >>= fun x1 =>
  jG x1 b >>= fun r2 =>
  bif r2 then
    some (.fin ((k1:Nat):Int))
  else
    some (.go ())
def cE (a:List (List Nat)) (b:ae):Option Int :=
  qQ (fun k1 (st:Unit)=>cq a b k1) (a.length - 0) 0 () >>= fun r1=>lS r1 (fun x=>some x) fun _ =>
  some (-1)
def bJ (a:List (List Nat)) (b:ae):Option Bool :=
  cE a b >>= fun r1 =>
  some (decide (r1 ≥ (0:Int)))
def kG (a:ae):Option Bool :=
  io a.S a.af >>= fun r1 =>
  bif !r1 then
    some false
  else
    bif ((a.ay.length:Nat):Int) != a.S.N then
      some false
    else
      br a.aa a >>= fun r2 =>
      bif r2 then
        some false
      else
        bJ a.ay a >>= fun r3 =>
        some (!r3)
def yb (a:List Nat):Option aH :=
  some (⟨a,((0:Nat):Int)⟩:aH)
def tC (a:ae) (k1:Nat) (l2:List aH):Option (List aH) :=
  a.ay[k1]? >>= fun x2 =>
  yb x2 >>= fun r3 =>
  cP 8 l2 ([r3]:List aH) >>= fun l4 =>
  some l4
def nM (a:ae):Option (Unit ⊕ ai) :=
  kG a >>= fun r1 =>
  bif !r1 then
    some (.inl ())
  else
    pi 24 a.S.N a.S.N ([]:List al) >>= fun l1 =>
    cV (fun k1 (st:(List aH))=>tC a k1 st) (a.ay.length - 0) 0 ([]:List aH) >>= fun l3 =>
    some (.inr (⟨a,((0:Nat):Int),l1,l3⟩:ai))
def p9 (a:aD) (b:Int):Option Int :=
  dO a.T (1:Int) >>= fun x1 =>
  jl (2:Int) x1 >>= fun x2 =>
  jl a.T a.T >>= fun x3 =>
  dO x2 x3 >>= fun x4 =>
  dO a.T (3:Int) >>= fun x5 =>
  jl x5 a.T >>= fun x6 =>
  jl x6 x1 >>= fun x7 =>
  wR x7 (2:Int) >>= fun x8 =>
  dO x4 x8 >>= fun x9 =>
  jl b x9 >>= fun x10 =>
  some x10
def bp (a:ai):Option ae :=
  some a.zw
def fL (a:ai) (b:Int):Option Nat :=
  i9 b (1:Int) >>= fun x1 =>
  gM a.ak x1 >>= fun x2 =>
  some x1.toNat
def jg (a:aH):Option Int :=
  i9 ((a.iF.length:Nat):Int) a.zat >>= fun x1 =>
  some x1
def kL (a:aH) (b:Int):Option ((List Nat) × Int × Int) :=
  (
    bif decide (b < (0:Int)) then
      some true
    else
      jg a >>= fun r1 =>
      some (decide (b > r1))
  ) >>= fun x1 =>
  bif x1 then
    some (([]:List Nat),((10:Nat):Int),a.zat)
  else
    dO a.zat b >>= fun x2 =>
    oK a.iF a.zat x2 >>= fun l1 =>
    some (l1,((0:Nat):Int),x2)
def lL (a:Nat) (b:Nat):Option (Nat × Nat) :=
  some (wI a 4294967295) >>= fun x1 =>
  uR a (32:Int) >>= fun x2 =>
  some (wI b 4294967295) >>= fun x3 =>
  uR b (32:Int) >>= fun x4 =>
  some (wU x1 x3) >>= fun x5 =>
  some (wU x2 x3) >>= fun x6 =>
  uR x5 (32:Int) >>= fun x7 =>
  some (nD x6 x7) >>= fun x8 =>
  some (wI x8 4294967295) >>= fun x9 =>
  uR x8 (32:Int) >>= fun x10 =>
  some (wU x1 x4) >>= fun x11 =>
  some (nD x9 x11) >>= fun x12 =>
  some (wU x2 x4) >>= fun x13 =>
  some (nD x13 x10) >>= fun x14 =>
  uR x12 (32:Int) >>= fun x15 =>
  some (nD x14 x15) >>= fun x16 =>
  some (wU a b) >>= fun x17 =>
  some (x16,x17)
def oO (a:Nat):Option Int :=
  bif a == 31 then
    some ((5:Nat):Int)
  else
    bif a == 127 then
      some ((7:Nat):Int)
    else
      bif a == 8191 then
        some ((13:Nat):Int)
      else
        bif a == 131071 then
          some ((17:Nat):Int)
        else
          bif a == 524287 then
            some ((19:Nat):Int)
          else
            bif a == 2147483647 then
              some ((31:Nat):Int)
            else
              bif a == 2305843009213693951 then
                some ((61:Nat):Int)
              else
                bif a == 1 then
                  some ((1:Nat):Int)
                else
                  bif a == 2 then
                    some ((2:Nat):Int)
                  else
                    bif a == 3 then
                      some ((2:Nat):Int)
                    else
                      bif a == 4 then
                        some ((3:Nat):Int)
                      else
                        bif a == 5 then
                          some ((3:Nat):Int)
                        else
                          bif a == 6 then
                            some ((3:Nat):Int)
                          else
                            bif a == 7 then
                              some ((3:Nat):Int)
                            else
                              none
def tu (a:Nat):Option Nat :=
  oO a >>= fun r1 =>
  some (uu r1) >>= fun x1 =>
  some x1
def gW (a:Nat) (r1:Nat) (x1:Nat) (x2:Nat):Option (Out (Nat × Nat) Nat) :=
  (
    bif ((x1:Nat):Int) != (0:Int) then
      some true
    else
      some (decide (((x2:Nat):Int) > ((a:Nat):Int)))
  ) >>= fun x5 =>
  bif x5 then
    some (wI x2 a) >>= fun x6 =>
    uR x2 ((r1:Nat):Int) >>= fun x7 =>
    some (yx 64 r1) >>= fun x8 =>
    Cw x1 ((x8:Nat):Int) >>= fun x9 =>
    some (Ns x7 x9) >>= fun x10 =>
    uR x1 ((r1:Nat):Int) >>= fun x11 =>
    some (nD x10 x6) >>= fun x12 =>
    some (HF x10 x6) >>= fun x13 =>
    some (nD x11 x13) >>= fun x14 =>
    some (.go (x14,x12))
  else
    some (.fin x2)
def nf (a:Nat) (b:Nat) (c:Nat):Option Nat :=
  tu a >>= fun r1 =>
  vj (fun (st:Nat × Nat)=>gW a r1 st.1 st.2) big (b,c) >>= fun x4 =>
  bif ((x4:Nat):Int) == ((a:Nat):Int) then
    some 0
  else
    some x4
def dc (a:Nat) (b:Nat) (c:Nat):Option Nat :=
  lL b c >>= fun r1 =>
  nf a r1.1 r1.2 >>= fun r2 =>
  some r2
def kV (a:Nat) (b:Nat) (c:Nat):Option Nat :=
  some (nD b c) >>= fun x1 =>
  nf a 0 x1 >>= fun r1 =>
  some r1
def oR (a:Int) (l1:List Nat):Option (Out (List Nat) (List Nat)) :=
  bif decide (((l1.length:Nat):Int)≤a) then
    cP 8 l1 ([0]:List Nat) >>= fun l4 =>
    some (.go l4)
  else
    some (.fin l1)
def iL (a:pB) (b:Int) (c:Nat):Option (List Nat) :=
  vj (fun (st:(List Nat))=>oR b st) big a.zf >>= fun l3 =>
  gM l3 b >>= fun x1 =>
  kV a.zp x1 c >>= fun r2 =>
  some (l3.set b.toNat r2) >>= fun l5 =>
  some l5
def pX (a:List Nat) (x2:Int):Option (Out Int (Int ⊕ Unit)) :=
  bif decide (x2 ≥ (0:Int)) then
    gM a x2 >>= fun x3 =>
    bif ((x3:Nat):Int) != (0:Int) then
      some (.fin (.inl x2))
    else
      i9 x2 (1:Int) >>= fun x4 =>
      some (.go x4)
  else
    some (.fin (.inr ()))
def mg (a:List Nat):Option Int :=
  i9 ((a.length:Nat):Int) (1:Int) >>= fun x1 =>
  vj (fun (st:Int)=>pX a st) big x1 >>= fun r1=>GU r1 (fun x=>some x) fun _ =>
  some (-1)
def iH (a:List Nat):Option (List Nat) :=
  mg a >>= fun r1 =>
  dO r1 (1:Int) >>= fun x1 =>
  oK a (0:Int) x1 >>= fun l1 =>
  cP 8 ([]:List Nat) l1 >>= fun l2 =>
  some l2
def tI (a:Nat) (b:List Nat) (k1:Nat) (x2:Nat) (k2:Nat) (l3:List Nat):Option (List Nat) :=
  b[k2]? >>= fun x4 =>
  dO ((k1:Nat):Int) ((k2:Nat):Int) >>= fun x5 =>
  dc a x2 x4 >>= fun r3 =>
  iL (⟨a,l3⟩:pB) x5 r3 >>= fun r4 =>
  some r4
def tG (a:Nat) (b:List Nat) (c:List Nat) (k1:Nat) (l1:List Nat):Option (List Nat) :=
  b[k1]? >>= fun x2 =>
  cV (fun k2 (st:(List Nat))=>tI a c k1 x2 k2 st) (c.length - 0) 0 l1 >>= fun l4 =>
  some l4
def tF (a:Nat) (b:List Nat) (c:List Nat):Option (List Nat) :=
  cV (fun k1 (st:(List Nat))=>tG a b c k1 st) (b.length - 0) 0 ([]:List Nat) >>= fun l2 =>
  iH l2 >>= fun r5 =>
  some r5
def mF (a:Int):Option Int :=
  some a
def mc (a:Nat) (b:Nat):Option Nat :=
  bif ((b:Nat):Int) == (0:Int) then
    some 0
  else
    some (yx a b) >>= fun x1 =>
    some x1
def md (a:Nat) (b:Nat) (c:Nat):Option Nat :=
  mc a c >>= fun r1 =>
  kV a b r1 >>= fun r2 =>
  some r2
def j7 (a:Nat) (k1:Int) (l9:List Nat) (k2:Nat) (l10:List Nat):Option (List Nat) :=
  l9[k2]? >>= fun x11 =>
  dO k1 ((k2:Nat):Int) >>= fun x12 =>
  gM l10 x12 >>= fun x13 =>
  md a x13 x11 >>= fun r4 =>
  some (l10.set x12.toNat r4) >>= fun l12 =>
  some l12
def dJ (a:Nat) (b:Int) (c:List Nat) (k1:Int) (l3:List Nat) (l4:List (List Nat)):Option ((List Nat) × (List (List Nat))) :=
  dO b (1:Int) >>= fun x3 =>
  pi 8 x3 x3 (0:Nat) >>= fun l7 =>
  i9 k1 (1:Int) >>= fun x4 =>
  jl x4 b >>= fun x5 =>
  jl k1 b >>= fun x6 =>
  oK c x5 x6 >>= fun l8 =>
  dO k1 b >>= fun x7 =>
  gM l3 x7 >>= fun x8 =>
  gM (iK l7 l8) b >>= fun x9 =>
  some ((iK l7 l8).set b.toNat x8) >>= fun l9 =>
  cV (fun k2 (st:(List Nat))=>j7 a k1 l9 k2 st) (l9.length - 0) 0 l3 >>= fun l11 =>
  gM l4 x4 >>= fun x14 =>
  some (l4.set x4.toNat l9) >>= fun l13 =>
  some (l11,l13)
def fN (a:Nat) (b:Int) (c:List Nat) (d:List Nat) (e:List Nat):Option ((List (List Nat)) × (List Nat)) :=
  jl (2:Int) b >>= fun x1 =>
  dO x1 (1:Int) >>= fun x2 =>
  pi 8 x2 x2 (0:Nat) >>= fun l1 =>
  tF a c d >>= fun r1 =>
  pi 24 b b (([]:List Nat):List Nat) >>= fun l2 =>
  mF b >>= fun r2 =>
  M8 (fun (k1:Int) (st:(List Nat) × (List (List Nat)))=>dJ a b e k1 st.1 st.2) (r2:Int) (iK l1 r1,l2) >>= fun (l5,l6) =>
  dO b (1:Int) >>= fun x15 =>
  oK l5 (0:Int) x15 >>= fun l14 =>
  some (l6,l14)
def eZ (a:List (List (List Nat))) (k1:Nat) (l1:List (List Nat)):Option (List (List Nat)) :=
  a[k1]? >>= fun x2 =>
  cP 24 l1 x2 >>= fun l3 =>
  some l3
def ss (a:List (List (List Nat))):Option (List (List Nat)) :=
  cV (fun k1 (st:(List (List Nat)))=>eZ a k1 st) (a.length - 0) 0 ([]:List (List Nat)) >>= fun l2 =>
  some l2
def fi (a:aC) (b:Int) (k1:Nat) (l1:List aH) (l2:List (List Nat)):Option ((List aH) × (List (List Nat))) :=
  fL (⟨a.zn.zw,a.zn.ah,a.zn.au,l1⟩:ai) b >>= fun r2 =>
  dO a.zs.T (1:Int) >>= fun x2 =>
  jl (2:Int) x2 >>= fun x3 =>
  jl a.zs.T a.zs.T >>= fun x4 =>
  dO x3 x4 >>= fun x5 =>
  l1[r2]? >>= fun x6 =>
  kL x6 x5 >>= fun r3 =>
  some (l1.set r2 (⟨x6.iF,r3.2.2⟩:aH)) >>= fun l5 =>
  oK r3.1 (0:Int) x2 >>= fun l6 =>
  jl (2:Int) a.zs.T >>= fun x7 =>
  dO x7 (2:Int) >>= fun x8 =>
  oK r3.1 x2 x8 >>= fun l7 =>
  oK r3.1 x8 ((r3.1.length:Nat):Int) >>= fun l8 =>
  fN a.zs.P a.zs.T l6 l7 l8 >>= fun r4 =>
  ss ([([l6,l7]:List (List Nat)),r4.1,([r4.2]:List (List Nat))]:List (List (List Nat))) >>= fun r5 =>
  cP 24 l2 r5 >>= fun l9 =>
  some (l5,l9)
def iM (a:aC) (b:Int) (c:Int):Option ((List (List Nat)) × (List aH)) :=
  na (max 0 (c).toNat) >>= fun u1 =>
  cV (fun k1 (st:(List aH) × (List (List Nat)))=>fi a b k1 st.1 st.2) ((max 0 (c).toNat) - 0) 0 (a.zn.ak,([]:List (List Nat))) >>= fun (l3,l4) =>
  some (l4,l3)
def vK (a:List Nat) (k1:Nat) (l2:List (List Nat)):Option (List (List Nat)) :=
  pi 8 ((a.length:Nat):Int) ((a.length:Nat):Int) (0:Nat) >>= fun l4 =>
  l2[k1]? >>= fun x6 =>
  some (l2.set k1 l4) >>= fun l5 =>
  some l5
def vL (a:List Nat) (k2:Nat) (l6:List (List Nat)):Option (List (List Nat)) :=
  a[k2]? >>= fun x8 =>
  l6[0]? >>= fun x9 =>
  l6[k2]? >>= fun x10 =>
  x9[k2]? >>= fun x11 =>
  some (x9.set k2 x8) >>= fun l8 =>
  some (l6.set 0 l8) >>= fun l9 =>
  x10[0]? >>= fun x12 =>
  l9[k2]? >>= fun x13 =>
  x13[0]? >>= fun x14 =>
  some (x13.set 0 x8) >>= fun l10 =>
  some (l9.set k2 l10) >>= fun l11 =>
  some l11
def mZ (a:List Nat) (k3:Nat) (l16:List Nat) (l17:List (List Nat)) (x16:Int):Option (Out ((List Nat) × (List (List Nat)) × Int) ((List Nat) × (List (List Nat)))) :=
  bif decide (x16 < ((a.length:Nat):Int)) then
    l17[k3]? >>= fun x17 =>
    gM l17 x16 >>= fun x18 =>
    l16[0]? >>= fun x19 =>
    gM x17 x16 >>= fun x20 =>
    some (x17.set x16.toNat x19) >>= fun l22 =>
    some (l17.set k3 l22) >>= fun l23 =>
    x18[k3]? >>= fun x21 =>
    gM l23 x16 >>= fun x22 =>
    x22[k3]? >>= fun x23 =>
    some (x22.set k3 x19) >>= fun l24 =>
    some (l23.set x16.toNat l24) >>= fun l25 =>
    oK l16 (1:Int) ((l16.length:Nat):Int) >>= fun l26 =>
    dO x16 (1:Int) >>= fun x24 =>
    some (.go (l26,l25,x24))
  else
    some (.fin (l16,l17))
def mY (a:List Nat) (k3:Nat) (l12:List Nat) (l13:List (List Nat)):Option ((List Nat) × (List (List Nat))) :=
  vj (fun (st:(List Nat) × (List (List Nat)) × Int)=>mZ a k3 st.1 st.2.1 st.2.2) big (l12,l13,((k3:Nat):Int)) >>= fun (l20,l21) =>
  some (l20,l21)
def lB (a:List Nat) (b:List Nat):Option ((List (List Nat)) × Int) :=
  (
    bif ((a.length:Nat):Int) == (0:Int) then
      some true
    else
      i9 ((a.length:Nat):Int) (1:Int) >>= fun x2 =>
      jl ((a.length:Nat):Int) x2 >>= fun x3 =>
      wR x3 (2:Int) >>= fun x4 =>
      some (((b.length:Nat):Int) != x4)
  ) >>= fun x1 =>
  bif x1 then
    some (([]:List (List Nat)),((1:Nat):Int))
  else
    pi 24 ((a.length:Nat):Int) ((a.length:Nat):Int) ([]:List Nat) >>= fun l1 =>
    cV (fun k1 (st:(List (List Nat)))=>vK a k1 st) (l1.length - 0) 0 l1 >>= fun l3 =>
    cV (fun k2 (st:(List (List Nat)))=>vL a k2 st) (a.length - 0) 0 l3 >>= fun l7 =>
    na (max 1 (((a.length:Nat):Int)).toNat) >>= fun u1 =>
    cV (fun k3 (st:(List Nat) × (List (List Nat)))=>mY a k3 st.1 st.2) ((max 1 (((a.length:Nat):Int)).toNat) - 1) 1 (b,l7) >>= fun (l14,l15) =>
    some (l15,((0:Nat):Int))
def eG (a:Int) (b:am) (x1:List (List Nat)) (k1:Nat) (l1:List aH) (l2:List (List (List (List Nat)))):Option ((List aH) × (List (List (List (List Nat))))) :=
  x1[k1]? >>= fun x3 =>
  dO a (1:Int) >>= fun x4 =>
  fL (⟨b.zn.zw,b.zn.ah,b.zn.au,l1⟩:ai) x4 >>= fun r2 =>
  dO b.zs.T (1:Int) >>= fun x5 =>
  jl b.zs.T x5 >>= fun x6 =>
  wR x6 (2:Int) >>= fun x7 =>
  l1[r2]? >>= fun x8 =>
  kL x8 x7 >>= fun r3 =>
  some (l1.set r2 (⟨x8.iF,r3.2.2⟩:aH)) >>= fun l5 =>
  lB x3 r3.1 >>= fun r4 =>
  gM l2 a >>= fun x9 =>
  cP 24 x9 ([r4.1]:List (List (List Nat))) >>= fun l6 =>
  some (l2.set a.toNat l6) >>= fun l7 =>
  some (l5,l7)
def gU (a:Int) (b:am):Option ((List aH) × aT) :=
  gM b.zq a >>= fun x1 =>
  cV (fun k1 (st:(List aH) × (List (List (List (List Nat)))))=>eG a b x1 k1 st.1 st.2) (x1.length - 0) 0 (b.zn.ak,b.zd.S) >>= fun (l3,l4) =>
  some (l3,(⟨l4,b.zd.Rows,b.zd.aN⟩:aT))
def bR (a:am) (k1:Nat) (l1:List aH) (l2:List (List (List (List Nat)))) (l3:List (List (List (List Nat)))) (l4:List (List (List Nat))):Option ((List aH) × (List (List (List (List Nat)))) × (List (List (List (List Nat)))) × (List (List (List Nat)))) :=
  gU ((k1:Nat):Int) (⟨(⟨a.zn.zw,a.zn.ah,a.zn.au,l1⟩:ai),a.zs,a.zq,(⟨l2,l3,l4⟩:aT)⟩:am) >>= fun r2 =>
  some (r2.1,r2.2.S,r2.2.Rows,r2.2.aN)
def dx (a:am):Option ((List aH) × aT) :=
  na (max 0 (a.zs.N).toNat) >>= fun u1 =>
  cV (fun k1 (st:(List aH) × (List (List (List (List Nat)))) × (List (List (List (List Nat)))) × (List (List (List Nat))))=>bR a k1 st.1 st.2.1 st.2.2.1 st.2.2.2) ((max 0 (a.zs.N).toNat) - 0) 0 (a.zn.ak,a.zd.S,a.zd.Rows,a.zd.aN) >>= fun (l5,l6,l7,l8) =>
  some (l5,(⟨l6,l7,l8⟩:aT))
def iP (a:am):Option ((List aH) × aT) :=
  dx a >>= fun r1 =>
  some (r1.1,r1.2)
def m0 (a:Nat) (x1:Nat) (x4:List Nat) (k2:Nat) (l4:List Nat):Option (List Nat) :=
  x4[k2]? >>= fun x6 =>
  l4[k2]? >>= fun x7 =>
  dc a x6 x1 >>= fun r3 =>
  kV a x7 r3 >>= fun r4 =>
  some (l4.set k2 r4) >>= fun l6 =>
  some l6
def ji (a:Nat) (b:List (List Nat)) (c:Nat) (k1:Nat) (l2:List Nat) (x1:Nat):Option ((List Nat) × Nat) :=
  b[k1]? >>= fun x4 =>
  cV (fun k2 (st:(List Nat))=>m0 a x1 x4 k2 st) (x4.length - 0) 0 l2 >>= fun l5 =>
  dc a x1 c >>= fun r5 =>
  some (l5,r5)
def fS (a:Nat) (b:List (List Nat)) (c:Nat):Option (List Nat) :=
  pi 8 ((b.length:Nat):Int) ((b.length:Nat):Int) (0:Nat) >>= fun l1 =>
  cV (fun k1 (st:(List Nat) × Nat)=>ji a b c k1 st.1 st.2) (b.length - 0) 0 (l1,1) >>= fun (l3,x3) =>
  some l3
def gv (a:am) (k1:Nat) (x2:List (List (List Nat))) (k2:Nat) (l3:List Nat):Option (List Nat) :=
  x2[k2]? >>= fun x4 =>
  some (uu ((k1:Nat):Int)) >>= fun x5 =>
  fS a.zs.P x4 x5 >>= fun r3 =>
  cP 8 l3 r3 >>= fun l5 =>
  some l5
def gu (a:Int) (b:am) (k1:Nat) (l1:List (List (List Nat))):Option (List (List (List Nat))) :=
  gM b.zd.S a >>= fun x2 =>
  na x2.length >>= fun u2 =>
  cV (fun k2 (st:(List Nat))=>gv b k1 x2 k2 st) (x2.length - 0) 0 ([]:List Nat) >>= fun l4 =>
  gM l1 a >>= fun x6 =>
  cP 24 x6 ([l4]:List (List Nat)) >>= fun l6 =>
  some (l1.set a.toNat l6) >>= fun l7 =>
  some l7
def fx (a:Int) (b:am) (c:List (List (List Nat))):Option (List (List (List Nat))) :=
  na (max 1 (b.zs.N+1).toNat) >>= fun u1 =>
  cV (fun k1 (st:(List (List (List Nat))))=>gu a b k1 st) ((max 1 (b.zs.N+1).toNat) - 1) 1 c >>= fun l2 =>
  some l2
def cO (a:am) (k1:Nat) (l1:List (List (List Nat))):Option (List (List (List Nat))) :=
  fx ((k1:Nat):Int) a l1 >>= fun r2 =>
  some r2
def cg (a:am) (b:List (List (List Nat))):Option (List (List (List Nat))) :=
  na (max 0 (a.zs.N).toNat) >>= fun u1 =>
  cV (fun k1 (st:(List (List (List Nat))))=>cO a k1 st) ((max 0 (a.zs.N).toNat) - 0) 0 b >>= fun l2 =>
  some l2
def b8 (a:List (List Nat)):Option (List (List Nat)) :=
  cP 24 ([]:List (List Nat)) a >>= fun l1 =>
  some l1
def iW (a:List Int) (b:Int) (k1:Nat):Option (Out Unit Int) :=
  a[k1]? >>= fun x1 =>
  bif b == x1 then
    some (.fin ((k1:Nat):Int))
  else
    some (.go ())
def j9 (a:List Int) (b:Int):Option Int :=
  qQ (fun k1 (st:Unit)=>iW a b k1) (a.length - 0) 0 () >>= fun r1=>lS r1 (fun x=>some x) fun _ =>
  some (-1)
def db (a:List Int) (b:Int):Option Bool :=
  j9 a b >>= fun r1 =>
  some (decide (r1 ≥ (0:Int)))
def kz (a:ae) (b:aO) (c:Int):Option Bool :=
  bif b.Round == c then
    db a.af b.From >>= fun r1 =>
    some r1
  else
    some false
def my (a:Nat) (b:Nat):Option Nat :=
  nf a 0 b >>= fun r1 =>
  some r1
def cx (a:List Nat):Option (List Nat) :=
  cP 8 ([]:List Nat) a >>= fun l1 =>
  some l1
def kB (a:List Nat) (b:Int):Option Nat :=
  bif decide (b < (0:Int)) then
    some 0
  else
    bif decide (b ≥ ((a.length:Nat):Int)) then
      some 0
    else
      gM a b >>= fun x1 =>
      some x1
def kA (a:ae) (b:aO) (c:List Nat) (d:List Nat):Option (List Nat) :=
  bif b.Kind == (4:Int) then
    some ([]:List Nat)
  else
    bif decide (b.At ≥ ((c.length:Nat):Int)) then
      some c
    else
      my a.S.P b.K >>= fun r1 =>
      cx c >>= fun r2 =>
      bif b.Kind == (1:Int) then
        gM r2 b.At >>= fun x1 =>
        some (r2.set b.At.toNat r1) >>= fun l1 =>
        some l1
      else
        bif b.Kind == (2:Int) then
          gM r2 b.At >>= fun x2 =>
          kV a.S.P x2 r1 >>= fun r3 =>
          some (r2.set b.At.toNat r3) >>= fun l2 =>
          some l2
        else
          bif b.Kind == (3:Int) then
            db a.af b.Of >>= fun r4 =>
            (
              bif !r4 then
                kB d b.bF >>= fun r5 =>
                some r5
              else
                some 0
            ) >>= fun x3 =>
            gM r2 b.At >>= fun x4 =>
            dc a.S.P r1 x3 >>= fun r6 =>
            kV a.S.P x4 r6 >>= fun r7 =>
            some (r2.set b.At.toNat r7) >>= fun l3 =>
            some l3
          else
            some r2
def dD (a:List (List (List Nat))) (k1:Nat) (l2:List (List (List Nat))):Option (List (List (List Nat))) :=
  a[k1]? >>= fun x2 =>
  b8 x2 >>= fun r2 =>
  l2[k1]? >>= fun x3 =>
  some (l2.set k1 r2) >>= fun l4 =>
  some l4
def gI (a:ae) (x5:aO) (l7:List Nat) (x10:Int) (k3:Nat) (l8:List (List (List Nat))):Option (List (List (List Nat))) :=
  (
    dO ((k3:Nat):Int) (1:Int) >>= fun x14 =>
    bif x14 != x5.From then
      bif x5.To == (0:Int) then
        some true
      else
        some (x5.To == x14)
    else
      some false
  ) >>= fun x13 =>
  bif x13 then
    gM l8 x10 >>= fun x15 =>
    x15[k3]? >>= fun x16 =>
    kA a x5 x16 l7 >>= fun r6 =>
    some (x15.set k3 r6) >>= fun l10 =>
    some (l8.set x10.toNat l10) >>= fun l11 =>
    some l11
  else
    some l8
def gH (a:ae) (b:Int) (c:List (List (List Nat))) (k2:Nat) (l5:List (List (List Nat))):Option (List (List (List Nat))) :=
  a.aa[k2]? >>= fun x5 =>
  kz a x5 b >>= fun r4 =>
  bif !r4 then
    some l5
  else
    (
      bif x5.Kind == (3:Int) then
        i9 x5.Of (1:Int) >>= fun x6 =>
        gM c x6 >>= fun x7 =>
        i9 x5.From (1:Int) >>= fun x8 =>
        gM x7 x8 >>= fun x9 =>
        some x9
      else
        some ([]:List Nat)
    ) >>= fun l7 =>
    i9 x5.From (1:Int) >>= fun x10 =>
    gM l5 x10 >>= fun x11 =>
    na x11.length >>= fun u1 =>
    cV (fun k3 (st:(List (List (List Nat))))=>gI a x5 l7 x10 k3 st) (x11.length - 0) 0 l5 >>= fun l9 =>
    some l9
def bO (a:ae) (b:Int) (c:List (List (List Nat))):Option (List (List (List Nat))) :=
  pi 24 ((c.length:Nat):Int) ((c.length:Nat):Int) ([]:List (List Nat)) >>= fun l1 =>
  cV (fun k1 (st:(List (List (List Nat))))=>dD c k1 st) (c.length - 0) 0 l1 >>= fun l3 =>
  cV (fun k2 (st:(List (List (List Nat))))=>gH a b c k2 st) (a.aa.length - 0) 0 l3 >>= fun l6 =>
  some l6
def jm (a:ai) (b:Int) (c:Int) (d:List Nat):Option (List (List al)) :=
  (
    bif b != c then
      some (decide (((d.length:Nat):Int) > (0:Int)))
    else
      some false
  ) >>= fun x1 =>
  bif x1 then
    gM a.au b >>= fun x2 =>
    dO c (1:Int) >>= fun x3 =>
    cP 8 ([]:List Nat) d >>= fun l1 =>
    cP 40 x2 ([(⟨a.ah,x3,l1⟩:al)]:List al) >>= fun l2 =>
    some (a.au.set b.toNat l2) >>= fun l3 =>
    some l3
  else
    some a.au
def gP (a:ai) (r1:(List (List (List Nat)))) (k1:Nat) (k2:Nat) (l6:List (List al)) (l7:List (List (List Nat))):Option ((List (List al)) × (List (List (List Nat)))) :=
  r1[k2]? >>= fun x3 =>
  x3[k1]? >>= fun x4 =>
  cP 8 ([]:List Nat) x4 >>= fun l10 =>
  l7[k1]? >>= fun x5 =>
  cP 24 x5 ([l10]:List (List Nat)) >>= fun l11 =>
  some (l7.set k1 l11) >>= fun l12 =>
  jm (⟨a.zw,a.ah,l6,a.ak⟩:ai) ((k1:Nat):Int) ((k2:Nat):Int) l10 >>= fun r4 =>
  some (r4,l12)
def gO (a:ai) (r1:(List (List (List Nat)))) (k1:Nat) (l2:List (List al)) (l3:List (List (List Nat))):Option ((List (List al)) × (List (List (List Nat)))) :=
  na (max 0 (a.zw.S.N).toNat) >>= fun u1 =>
  cV (fun k2 (st:(List (List al)) × (List (List (List Nat))))=>gP a r1 k1 k2 st.1 st.2) ((max 0 (a.zw.S.N).toNat) - 0) 0 (l2,l3) >>= fun (l8,l9) =>
  some (l8,l9)
def hJ (a:ai) (b:List (List (List Nat))):Option ((List (List (List Nat))) × Int × (List (List al))) :=
  bO a.zw a.ah b >>= fun r1 =>
  pi 24 a.zw.S.N a.zw.S.N ([]:List (List Nat)) >>= fun l1 =>
  cV (fun k1 (st:(List (List al)) × (List (List (List Nat))))=>gO a r1 k1 st.1 st.2) (l1.length - 0) 0 (a.au,l1) >>= fun (l4,l5) =>
  dO a.ah (1:Int) >>= fun x6 =>
  some (l5,x6,l4)
def dV (a:List Nat) (b:Int):Option (List Nat) :=
  pi 8 b b (0:Nat) >>= fun l1 =>
  some (iK l1 a)
def gx (a:Int) (r2:(List Nat)) (k2:Nat) (l3:List (List Nat)):Option (List (List Nat)) :=
  jl ((k2:Nat):Int) a >>= fun x7 =>
  dO ((k2:Nat):Int) (1:Int) >>= fun x8 =>
  jl x8 a >>= fun x9 =>
  oK r2 x7 x9 >>= fun l5 =>
  cP 24 l3 ([l5]:List (List Nat)) >>= fun l6 =>
  some l6
def gw (a:Int) (b:am) (c:List (List (List Nat))) (d:Int) (k1:Nat) (l1:List (List (List (List Nat)))):Option (List (List (List (List Nat)))) :=
  b.zq[k1]? >>= fun x2 =>
  gM c a >>= fun x3 =>
  x3[k1]? >>= fun x4 =>
  jl ((x2.length:Nat):Int) d >>= fun x5 =>
  dV x4 x5 >>= fun r2 =>
  cV (fun k2 (st:(List (List Nat)))=>gx d r2 k2 st) (x2.length - 0) 0 ([]:List (List Nat)) >>= fun l4 =>
  gM l1 a >>= fun x10 =>
  cP 24 x10 ([l4]:List (List (List Nat))) >>= fun l7 =>
  some (l1.set a.toNat l7) >>= fun l8 =>
  some l8
def fy (a:Int) (b:am) (c:List (List (List Nat))) (d:Int):Option aT :=
  cV (fun k1 (st:(List (List (List (List Nat)))))=>gw a b c d k1 st) (b.zq.length - 0) 0 b.zd.Rows >>= fun l2 =>
  some (⟨b.zd.S,l2,b.zd.aN⟩:aT)
def bH (a:am) (b:List (List (List Nat))) (c:Int) (k1:Nat) (l1:List (List (List (List Nat)))) (l2:List (List (List (List Nat)))) (l3:List (List (List Nat))):Option ((List (List (List (List Nat)))) × (List (List (List (List Nat)))) × (List (List (List Nat)))) :=
  fy ((k1:Nat):Int) (⟨a.zn,a.zs,a.zq,(⟨l1,l2,l3⟩:aT)⟩:am) b c >>= fun r2 =>
  some (r2.S,r2.Rows,r2.aN)
def ci (a:am) (b:List (List (List Nat))) (c:Int):Option aT :=
  na (max 0 (a.zs.N).toNat) >>= fun u1 =>
  cV (fun k1 (st:(List (List (List (List Nat)))) × (List (List (List (List Nat)))) × (List (List (List Nat))))=>bH a b c k1 st.1 st.2.1 st.2.2) ((max 0 (a.zs.N).toNat) - 0) 0 (a.zd.S,a.zd.Rows,a.zd.aN) >>= fun (l4,l5,l6) =>
  some (⟨l4,l5,l6⟩:aT)
def fW (a:am):Option (Int × (List (List al)) × aT) :=
  dO a.zs.T (1:Int) >>= fun x1 =>
  pi 24 a.zs.N a.zs.N ([]:List (List Nat)) >>= fun l1 =>
  cg a l1 >>= fun r1 =>
  hJ a.zn r1 >>= fun r2 =>
  ci (⟨(⟨a.zn.zw,r2.2.1,r2.2.2,a.zn.ak⟩:ai),a.zs,a.zq,a.zd⟩:am) r2.1 x1 >>= fun r3 =>
  some (r2.2.1,r2.2.2,r3)
def mC (a:Nat) (b:List Nat) (c:Nat) (x2:Nat) (x3:Int):Option (Out (Nat × Int) Nat) :=
  bif decide (x3 ≥ (0:Int)) then
    dc a x2 c >>= fun r2 =>
    gM b x3 >>= fun x6 =>
    kV a r2 x6 >>= fun r3 =>
    i9 x3 (1:Int) >>= fun x7 =>
    some (.go (r3,x7))
  else
    some (.fin x2)
def iG (a:Nat) (b:List Nat) (c:Nat):Option Nat :=
  i9 ((b.length:Nat):Int) (1:Int) >>= fun x1 =>
  vj (fun (st:Nat × Int)=>mC a b c st.1 st.2) big (0,x1) >>= fun x5 =>
  some x5
def mj (a:am) (b:Int) (x3:List (List Nat)) (k2:Nat) (l3:List Nat):Option (List Nat) :=
  x3[k2]? >>= fun x5 =>
  some (uu b) >>= fun x6 =>
  iG a.zs.P x5 x6 >>= fun r3 =>
  cP 8 l3 ([r3]:List Nat) >>= fun l5 =>
  some l5
def jw (a:am) (b:Int) (x1:List (List (List Nat))) (k1:Nat) (l1:List Nat):Option (List Nat) :=
  x1[k1]? >>= fun x3 =>
  cV (fun k2 (st:(List Nat))=>mj a b x3 k2 st) (x3.length - 0) 0 l1 >>= fun l4 =>
  some l4
def gy (a:am) (b:Int) (c:Int):Option (List Nat) :=
  gM a.zd.Rows b >>= fun x1 =>
  na x1.length >>= fun u1 =>
  cV (fun k1 (st:(List Nat))=>jw a c x1 k1 st) (x1.length - 0) 0 ([]:List Nat) >>= fun l2 =>
  some l2
def kS (a:Int) (b:am) (k1:Nat) (l1:List (List (List Nat))):Option (List (List (List Nat))) :=
  gM l1 a >>= fun x2 =>
  gy b a ((k1:Nat):Int) >>= fun r2 =>
  cP 24 x2 ([r2]:List (List Nat)) >>= fun l3 =>
  some (l1.set a.toNat l3) >>= fun l4 =>
  some l4
def jv (a:Int) (b:am) (c:List (List (List Nat))):Option (List (List (List Nat))) :=
  na (max 1 (b.zs.N+1).toNat) >>= fun u1 =>
  cV (fun k1 (st:(List (List (List Nat))))=>kS a b k1 st) ((max 1 (b.zs.N+1).toNat) - 1) 1 c >>= fun l2 =>
  some l2
def eH (a:am) (k1:Nat) (l1:List (List (List Nat))):Option (List (List (List Nat))) :=
  jv ((k1:Nat):Int) a l1 >>= fun r2 =>
  some r2
def cI (a:am) (b:List (List (List Nat))):Option (List (List (List Nat))) :=
  na (max 0 (a.zs.N).toNat) >>= fun u1 =>
  cV (fun k1 (st:(List (List (List Nat))))=>eH a k1 st) ((max 0 (a.zs.N).toNat) - 0) 0 b >>= fun l2 =>
  some l2
def iw (a:am):Option ((List (List (List Nat))) × Int × (List (List al))) :=
  pi 24 a.zs.N a.zs.N ([]:List (List Nat)) >>= fun l1 =>
  cI a l1 >>= fun r1 =>
  hJ a.zn r1 >>= fun r2 =>
  some (r2.1,r2.2.1,r2.2.2)
def fB (a:am) (k1:Nat) (r2:(List Nat)) (r3:(List Nat)) (k2:Nat) (k3:Nat) (l6:List Nat) (x9:Int):Option ((List Nat) × Int) :=
  gM r3 x9 >>= fun x12 =>
  gM r2 x9 >>= fun x13 =>
  bif ((x12:Nat):Int) != ((x13:Nat):Int) then
    jl ((k2:Nat):Int) a.zs.N >>= fun x14 =>
    dO x14 ((k1:Nat):Int) >>= fun x15 =>
    gM l6 x15 >>= fun x16 =>
    some (l6.set x15.toNat 1) >>= fun l8 =>
    dO x9 (1:Int) >>= fun x17 =>
    some (l8,x17)
  else
    dO x9 (1:Int) >>= fun x18 =>
    some (l6,x18)
def fA (a:am) (k1:Nat) (r2:(List Nat)) (r3:(List Nat)) (k2:Nat) (l4:List Nat) (x5:Int):Option ((List Nat) × Int) :=
  a.zq[k2]? >>= fun x8 =>
  cV (fun k3 (st:(List Nat) × Int)=>fB a k1 r2 r3 k2 k3 st.1 st.2) (x8.length - 0) 0 (l4,x5) >>= fun (l7,x11) =>
  some (l7,x11)
def jN (a:am) (b:Int) (c:List (List Nat)) (k1:Nat) (l2:List Nat):Option (List Nat) :=
  bif ((k1:Nat):Int) == b then
    some l2
  else
    dO ((k1:Nat):Int) (1:Int) >>= fun x3 =>
    gy a b x3 >>= fun r2 =>
    c[k1]? >>= fun x4 =>
    dV x4 ((r2.length:Nat):Int) >>= fun r3 =>
    cV (fun k2 (st:(List Nat) × Int)=>fA a k1 r2 r3 k2 st.1 st.2) (a.zq.length - 0) 0 (l2,((0:Nat):Int)) >>= fun (l5,x7) =>
    some l5
def dI (a:am) (b:Int) (c:List (List Nat)):Option (List Nat) :=
  jl a.zs.N a.zs.N >>= fun x1 =>
  pi 8 x1 x1 (0:Nat) >>= fun l1 =>
  na (max 0 (a.zs.N).toNat) >>= fun u1 =>
  cV (fun k1 (st:(List Nat))=>jN a b c k1 st) ((max 0 (a.zs.N).toNat) - 0) 0 l1 >>= fun l3 =>
  some l3
def i5 (a:Int) (b:am) (c:List (List (List Nat))) (d:List (List Nat)):Option (List (List Nat)) :=
  gM c a >>= fun x1 =>
  dI b a x1 >>= fun r1 =>
  gM d a >>= fun x2 =>
  some (d.set a.toNat r1) >>= fun l1 =>
  some l1
def en (a:am) (b:List (List (List Nat))) (k1:Nat) (l1:List (List Nat)):Option (List (List Nat)) :=
  i5 ((k1:Nat):Int) a b l1 >>= fun r2 =>
  some r2
def cA (a:am) (b:List (List (List Nat))) (c:List (List Nat)):Option (List (List Nat)) :=
  na (max 0 (a.zs.N).toNat) >>= fun u1 =>
  cV (fun k1 (st:(List (List Nat)))=>en a b k1 st) ((max 0 (a.zs.N).toNat) - 0) 0 c >>= fun l2 =>
  some l2
def fI (a:ae) (b:Int) (c:List (List Nat)) (k1:Nat) (l1:List (List Nat)):Option (List (List Nat)) :=
  a.aa[k1]? >>= fun x2 =>
  kz a x2 b >>= fun r3 =>
  bif !r3 then
    some l1
  else
    (
      bif x2.Kind == (3:Int) then
        i9 x2.Of (1:Int) >>= fun x3 =>
        gM c x3 >>= fun x4 =>
        some x4
      else
        some ([]:List Nat)
    ) >>= fun l3 =>
    i9 x2.From (1:Int) >>= fun x5 =>
    gM l1 x5 >>= fun x6 =>
    kA a x2 x6 l3 >>= fun r4 =>
    some (l1.set x5.toNat r4) >>= fun l4 =>
    some l4
def bj (a:ae) (b:Int) (c:List (List Nat)):Option (List (List Nat)) :=
  b8 c >>= fun r1 =>
  cV (fun k1 (st:(List (List Nat)))=>fI a b c k1 st) (a.aa.length - 0) 0 r1 >>= fun l2 =>
  some l2
def iR (a:ai) (k1:Nat) (l7:List (List Nat)) (k2:Nat) (l8:List (List al)):Option (List (List al)) :=
  l7[k1]? >>= fun x5 =>
  jm (⟨a.zw,a.ah,l8,a.ak⟩:ai) ((k2:Nat):Int) ((k1:Nat):Int) x5 >>= fun r4 =>
  some r4
def eX (a:ai) (r1:(List (List Nat))) (k1:Nat) (l2:List (List al)) (l3:List (List Nat)):Option ((List (List al)) × (List (List Nat))) :=
  r1[k1]? >>= fun x2 =>
  cP 8 ([]:List Nat) x2 >>= fun l6 =>
  l3[k1]? >>= fun x3 =>
  some (l3.set k1 l6) >>= fun l7 =>
  cV (fun k2 (st:(List (List al)))=>iR a k1 l7 k2 st) (l7.length - 0) 0 l2 >>= fun l9 =>
  some (l9,l7)
def cm (a:ai) (b:List (List Nat)):Option ((List (List Nat)) × Int × (List (List al))) :=
  bj a.zw a.ah b >>= fun r1 =>
  pi 24 a.zw.S.N a.zw.S.N (([]:List Nat):List Nat) >>= fun l1 =>
  cV (fun k1 (st:(List (List al)) × (List (List Nat)))=>eX a r1 k1 st.1 st.2) (l1.length - 0) 0 (a.au,l1) >>= fun (l4,l5) =>
  dO a.ah (1:Int) >>= fun x6 =>
  some (l5,x6,l4)
def kv (a:Int) (b:am) (r1:(List Nat)) (k1:Nat) (l1:List (List (List Nat))):Option (List (List (List Nat))) :=
  gM l1 a >>= fun x4 =>
  jl ((k1:Nat):Int) b.zs.N >>= fun x5 =>
  dO ((k1:Nat):Int) (1:Int) >>= fun x6 =>
  jl x6 b.zs.N >>= fun x7 =>
  oK r1 x5 x7 >>= fun l3 =>
  cP 24 x4 ([l3]:List (List Nat)) >>= fun l4 =>
  some (l1.set a.toNat l4) >>= fun l5 =>
  some l5
def fV (a:Int) (b:List (List Nat)) (c:am):Option aT :=
  gM b a >>= fun x1 =>
  jl c.zs.N c.zs.N >>= fun x2 =>
  dV x1 x2 >>= fun r1 =>
  na (max 0 (c.zs.N).toNat) >>= fun u1 =>
  cV (fun k1 (st:(List (List (List Nat))))=>kv a c r1 k1 st) ((max 0 (c.zs.N).toNat) - 0) 0 c.zd.aN >>= fun l2 =>
  some (⟨c.zd.S,c.zd.Rows,l2⟩:aT)
def bL (a:am) (b:List (List Nat)) (k1:Nat) (l1:List (List (List (List Nat)))) (l2:List (List (List (List Nat)))) (l3:List (List (List Nat))):Option ((List (List (List (List Nat)))) × (List (List (List (List Nat)))) × (List (List (List Nat)))) :=
  fV ((k1:Nat):Int) b (⟨a.zn,a.zs,a.zq,(⟨l1,l2,l3⟩:aT)⟩:am) >>= fun r2 =>
  some (r2.S,r2.Rows,r2.aN)
def cC (a:am) (b:List (List Nat)):Option aT :=
  na (max 0 (a.zs.N).toNat) >>= fun u1 =>
  cV (fun k1 (st:(List (List (List (List Nat)))) × (List (List (List (List Nat)))) × (List (List (List Nat))))=>bL a b k1 st.1 st.2.1 st.2.2) ((max 0 (a.zs.N).toNat) - 0) 0 (a.zd.S,a.zd.Rows,a.zd.aN) >>= fun (l4,l5,l6) =>
  some (⟨l4,l5,l6⟩:aT)
def gV (a:am) (b:List (List (List Nat))):Option (Int × (List (List al)) × aT) :=
  pi 24 a.zs.N a.zs.N (([]:List Nat):List Nat) >>= fun l1 =>
  cA a b l1 >>= fun r1 =>
  cm a.zn r1 >>= fun r2 =>
  cC (⟨(⟨a.zn.zw,r2.2.1,r2.2.2,a.zn.ak⟩:ai),a.zs,a.zq,a.zd⟩:am) r2.1 >>= fun r3 =>
  some (r2.2.1,r2.2.2,r3)
def jM (a:ai) (b:List (List (List Nat))):Option (aT × Int × (List (List al)) × (List aH)) :=
  bp a >>= fun r1 =>
  pi 24 r1.S.N r1.S.N ([]:List (List (List Nat))) >>= fun l1 =>
  pi 24 r1.S.N r1.S.N ([]:List (List Nat)) >>= fun l2 =>
  iP (⟨a,r1.S,b,(⟨l1,l1,l2⟩:aT)⟩:am) >>= fun r2 =>
  fW (⟨(⟨a.zw,a.ah,a.au,r2.1⟩:ai),r1.S,b,r2.2⟩:am) >>= fun r3 =>
  iw (⟨(⟨a.zw,r3.1,r3.2.1,r2.1⟩:ai),r1.S,b,r3.2.2⟩:am) >>= fun r4 =>
  gV (⟨(⟨a.zw,r4.2.1,r4.2.2,r2.1⟩:ai),r1.S,b,r3.2.2⟩:am) r4.1 >>= fun r5 =>
  some (r5.2.2,r5.1,r5.2.1,r2.1)
def bu (a:ax):Option Int :=
  some ((a.zd.Rows.length:Nat):Int)
def mX (k1:Nat) (x3:List Nat) (k2:Nat) (l3:List ca):Option (List ca) :=
  x3[k2]? >>= fun x5 =>
  bif ((x5:Nat):Int) != (0:Int) then
    cP 16 l3 ([(⟨((k1:Nat):Int),((k2:Nat):Int)⟩:ca)]:List ca) >>= fun l5 =>
    some l5
  else
    some l3
def ka (a:ax) (b:Int) (k1:Nat) (l1:List ca):Option (List ca) :=
  a.zd.aN[k1]? >>= fun x2 =>
  gM x2 b >>= fun x3 =>
  cV (fun k2 (st:(List ca))=>mX k1 x3 k2 st) (x3.length - 0) 0 l1 >>= fun l4 =>
  some l4
def fR (a:ax) (b:Int):Option (List ca) :=
  bu a >>= fun r1 =>
  na (max 0 (r1).toNat) >>= fun u1 =>
  cV (fun k1 (st:(List ca))=>ka a b k1 st) ((max 0 (r1).toNat) - 0) 0 ([]:List ca) >>= fun l2 =>
  some l2
def su (a:Int):Option Nat :=
  dO a (1:Int) >>= fun x1 =>
  some (uu x1) >>= fun x2 =>
  some x2
def mo (a:Nat) (b:List (List Nat)) (c:Nat) (d:Nat):Option Nat :=
  fS a b c >>= fun r1 =>
  iG a r1 d >>= fun r2 =>
  some r2
def gL (a:ax) (b:Int):Option Int :=
  gM a.zd.S b >>= fun x1 =>
  some ((x1.length:Nat):Int)
def ju (a:nv) (b:Int):Option ((List Nat) × (List Nat)) :=
  dV a.zl b >>= fun r1 =>
  some (min b ((a.zl.length:Nat):Int)) >>= fun x1 =>
  oK a.zl x1 ((a.zl.length:Nat):Int) >>= fun l1 =>
  some (r1,l1)
def oo (a:ax) (x3:ca) (x4:List (List (List Nat))) (k3:Nat) (l5:List Nat):Option (List Nat) :=
  x4[k3]? >>= fun x6 =>
  su x3.e0 >>= fun r6 =>
  su x3.e1 >>= fun r7 =>
  mo a.zp x6 r6 r7 >>= fun r8 =>
  cP 8 l5 ([r8]:List Nat) >>= fun l7 =>
  some l7
def kO (a:ax) (k1:Nat) (r3:(List ca)) (k2:Nat) (l3:List Nat):Option (List Nat) :=
  r3[k2]? >>= fun x3 =>
  a.zd.S[k1]? >>= fun x4 =>
  cV (fun k3 (st:(List Nat))=>oo a x3 x4 k3 st) (x4.length - 0) 0 l3 >>= fun l6 =>
  some l6
def kN (a:ax) (k1:Nat) (l1:List (List Nat)):Option (List (List Nat)) :=
  fR a ((k1:Nat):Int) >>= fun r3 =>
  cV (fun k2 (st:(List Nat))=>kO a k1 r3 k2 st) (r3.length - 0) 0 ([]:List Nat) >>= fun l4 =>
  cP 24 l1 ([l4]:List (List Nat)) >>= fun l8 =>
  some l8
def gt (a:ax) (r9:(List (List Nat)) × Int × (List (List al))) (k4:Nat) (k5:Nat) (l11:List Nat) (l12:List (List Nat)):Option ((List Nat) × (List (List Nat))) :=
  gL (⟨(⟨a.zn.zw,r9.2.1,r9.2.2,a.zn.ak⟩:ai),a.zp,a.zd,a.bb,a.bZ,a.dt⟩:ax) ((k4:Nat):Int) >>= fun r14 =>
  ju (⟨l11⟩:nv) r14 >>= fun r15 =>
  cP 24 l12 ([r15.1]:List (List Nat)) >>= fun l15 =>
  some (r15.2,l15)
def oq (a:ax) (r9:(List (List Nat)) × Int × (List (List al))) (k4:Nat) (l9:List (List (List Nat))):Option (List (List (List Nat))) :=
  r9.1[k4]? >>= fun x8 =>
  fR (⟨(⟨a.zn.zw,r9.2.1,r9.2.2,a.zn.ak⟩:ai),a.zp,a.zd,a.bb,a.bZ,a.dt⟩:ax) ((k4:Nat):Int) >>= fun r12 =>
  cV (fun k5 (st:(List Nat) × (List (List Nat)))=>gt a r9 k4 k5 st.1 st.2) (r12.length - 0) 0 (x8,([]:List (List Nat))) >>= fun (l13,l14) =>
  cP 24 l9 ([l14]:List (List (List Nat))) >>= fun l16 =>
  some l16
def kq (a:ax):Option ((List (List (List Nat))) × Int × (List (List al))) :=
  bu a >>= fun r1 =>
  na (max 0 (r1).toNat) >>= fun u1 =>
  cV (fun k1 (st:(List (List Nat)))=>kN a k1 st) ((max 0 (r1).toNat) - 0) 0 ([]:List (List Nat)) >>= fun l2 =>
  cm a.zn l2 >>= fun r9 =>
  bu (⟨(⟨a.zn.zw,r9.2.1,r9.2.2,a.zn.ak⟩:ai),a.zp,a.zd,a.bb,a.bZ,a.dt⟩:ax) >>= fun r10 =>
  na (max 0 (r10).toNat) >>= fun u2 =>
  cV (fun k4 (st:(List (List (List Nat))))=>oq a r9 k4 st) ((max 0 (r10).toNat) - 0) 0 ([]:List (List (List Nat))) >>= fun l10 =>
  some (l10,r9.2.1,r9.2.2)
def sv (a:ca) (b:Int):Option (List Int) :=
  (
    bif a.e0 == b then
      cP 8 ([]:List Int) ([a.e1]:List Int) >>= fun l2 =>
      some l2
    else
      some ([]:List Int)
  ) >>= fun l1 =>
  bif a.e1 == b then
    cP 8 l1 ([a.e0]:List Int) >>= fun l3 =>
    some l3
  else
    some l1
def lH (a:ax) (b:Int) (c:Int) (d:Int):Option (List Nat) :=
  gM a.zd.Rows b >>= fun x1 =>
  gM x1 c >>= fun x2 =>
  gM x2 d >>= fun x3 =>
  some x3
def kR (a:ax) (b:Int) (c:Int) (x2:Int) (x3:List Nat) (k3:Nat):Option (Out Unit Bool) :=
  x3[k3]? >>= fun x4 =>
  lH a b c ((k3:Nat):Int) >>= fun r6 =>
  su x2 >>= fun r7 =>
  iG a.zp r6 r7 >>= fun r8 =>
  bif ((r8:Nat):Int) != ((x4:Nat):Int) then
    some (.fin true)
  else
    some (.go ())
def kQ (a:ax) (b:Int) (c:Int) (d:List (List Nat)) (k1:Nat) (r3:(List Int)) (k2:Nat):Option (Out Unit Bool) :=
  r3[k2]? >>= fun x2 =>
  d[k1]? >>= fun x3 =>
  qQ (fun k3 (st:Unit)=>kR a b c x2 x3 k3) (x3.length - 0) 0 () >>= fun r5=>lS r5 (fun x=>some (.fin x)) fun _ =>
  some (.go ())
def kP (a:ax) (b:Int) (c:Int) (d:List (List Nat)) (r1:(List ca)) (k1:Nat):Option (Out Unit Bool) :=
  r1[k1]? >>= fun x1 =>
  sv x1 b >>= fun r3 =>
  qQ (fun k2 (st:Unit)=>kQ a b c d k1 r3 k2) (r3.length - 0) 0 () >>= fun r4=>lS r4 (fun x=>some (.fin x)) fun _ =>
  some (.go ())
def ku (a:ax) (b:Int) (c:Int) (d:List (List Nat)):Option Bool :=
  fR a c >>= fun r1 =>
  qQ (fun k1 (st:Unit)=>kP a b c d r1 k1) (r1.length - 0) 0 () >>= fun r2=>lS r2 (fun x=>some x) fun _ =>
  some false
def im (a:Int) (b:Int) (c:ax) (d:List (List (List Nat))):Option Bool :=
  gM d b >>= fun x1 =>
  ku c a b x1 >>= fun r1 =>
  some r1
def lJ (a:ax) (b:List (List (List Nat))) (k1:Nat) (k2:Nat) (l3:List Nat):Option (List Nat) :=
  im ((k1:Nat):Int) ((k2:Nat):Int) a b >>= fun r4 =>
  bif r4 then
    cP 8 l3 ([1]:List Nat) >>= fun l5 =>
    some l5
  else
    cP 8 l3 ([0]:List Nat) >>= fun l6 =>
    some l6
def lI (a:ax) (b:List (List (List Nat))) (r1:Int) (k1:Nat) (l1:List (List Nat)):Option (List (List Nat)) :=
  cV (fun k2 (st:(List Nat))=>lJ a b k1 k2 st) ((max 0 (r1).toNat) - 0) 0 ([]:List Nat) >>= fun l4 =>
  cP 24 l1 ([l4]:List (List Nat)) >>= fun l7 =>
  some l7
def gX (r5:(List (List Nat)) × Int × (List (List al))) (r6:Int) (k3:Nat) (k4:Nat) (l11:List (List Bool)):Option (List (List Bool)) :=
  l11[k3]? >>= fun x5 =>
  r5.1[k4]? >>= fun x6 =>
  dV x6 r6 >>= fun r9 =>
  r9[k3]? >>= fun x7 =>
  cP 1 x5 ([((x7:Nat):Int) != (0:Int)]:List Bool) >>= fun l13 =>
  some (l11.set k3 l13) >>= fun l14 =>
  some l14
def fb (r5:(List (List Nat)) × Int × (List (List al))) (r6:Int) (k3:Nat) (l9:List (List Bool)):Option (List (List Bool)) :=
  na (max 0 (r6).toNat) >>= fun u2 =>
  cV (fun k4 (st:(List (List Bool)))=>gX r5 r6 k3 k4 st) ((max 0 (r6).toNat) - 0) 0 l9 >>= fun l12 =>
  some l12
def fw (a:ax) (b:List (List (List Nat))):Option ((List (List Bool)) × Int × (List (List al))) :=
  bu a >>= fun r1 =>
  na (max 0 (r1).toNat) >>= fun u1 =>
  cV (fun k1 (st:(List (List Nat)))=>lI a b r1 k1 st) ((max 0 (r1).toNat) - 0) 0 ([]:List (List Nat)) >>= fun l2 =>
  cm a.zn l2 >>= fun r5 =>
  bu (⟨(⟨a.zn.zw,r5.2.1,r5.2.2,a.zn.ak⟩:ai),a.zp,a.zd,a.bb,a.bZ,a.dt⟩:ax) >>= fun r6 =>
  pi 24 r6 r6 ([]:List Bool) >>= fun l8 =>
  cV (fun k3 (st:(List (List Bool)))=>fb r5 r6 k3 st) (l8.length - 0) 0 l8 >>= fun l10 =>
  some (l10,r5.2.1,r5.2.2)
def qA (a:ax) (k2:Nat) (x5:List (List (List Nat))) (k3:Nat) (l5:List Nat):Option (List Nat) :=
  x5[k3]? >>= fun x7 =>
  su ((k2:Nat):Int) >>= fun r5 =>
  fS a.zp x7 r5 >>= fun r6 =>
  cP 8 l5 r6 >>= fun l7 =>
  some l7
def mP (a:ax) (k1:Nat) (x2:List Bool) (k2:Nat) (l3:List Nat):Option (List Nat) :=
  x2[k2]? >>= fun x4 =>
  bif x4 then
    a.zd.S[k1]? >>= fun x5 =>
    cV (fun k3 (st:(List Nat))=>qA a k2 x5 k3 st) (x5.length - 0) 0 l3 >>= fun l6 =>
    some l6
  else
    some l3
def mO (a:ax) (k1:Nat) (l1:List (List Nat)):Option (List (List Nat)) :=
  a.bb[k1]? >>= fun x2 =>
  cV (fun k2 (st:(List Nat))=>mP a k1 x2 k2 st) (x2.length - 0) 0 ([]:List Nat) >>= fun l4 =>
  cP 24 l1 ([l4]:List (List Nat)) >>= fun l8 =>
  some l8
def iO (x8:Int) (k5:Nat) (k6:Nat) (l16:List Nat) (l17:List (List (List Nat))):Option ((List Nat) × (List (List (List Nat)))) :=
  l17[k5]? >>= fun x15 =>
  ju (⟨l16⟩:nv) x8 >>= fun r15 =>
  cP 24 x15 ([r15.1]:List (List Nat)) >>= fun l20 =>
  some (l17.set k5 l20) >>= fun l21 =>
  some (r15.2,l21)
def gF (a:ax) (r7:(List (List Nat)) × Int × (List (List al))) (x8:Int) (l9:List (List (List (List Nat)))) (k4:Nat) (x11:List Bool) (k5:Nat) (l12:List Nat) (l13:List (List (List Nat))):Option ((List Nat) × (List (List (List Nat)))) :=
  x11[k5]? >>= fun x13 =>
  bif x13 then
    gL (⟨(⟨a.zn.zw,r7.2.1,r7.2.2,a.zn.ak⟩:ai),a.zp,a.zd,a.bb,a.bZ,l9⟩:ax) ((k4:Nat):Int) >>= fun r13 =>
    na (max 0 (r13).toNat) >>= fun u3 =>
    cV (fun k6 (st:(List Nat) × (List (List (List Nat))))=>iO x8 k5 k6 st.1 st.2) ((max 0 (r13).toNat) - 0) 0 (l12,l13) >>= fun (l18,l19) =>
    some (l18,l19)
  else
    some (l12,l13)
def qB (a:ax) (r7:(List (List Nat)) × Int × (List (List al))) (x8:Int) (k4:Nat) (l9:List (List (List (List Nat)))):Option (List (List (List (List Nat)))) :=
  r7.1[k4]? >>= fun x10 =>
  bu (⟨(⟨a.zn.zw,r7.2.1,r7.2.2,a.zn.ak⟩:ai),a.zp,a.zd,a.bb,a.bZ,l9⟩:ax) >>= fun r11 =>
  pi 24 r11 r11 ([]:List (List Nat)) >>= fun l11 =>
  a.bb[k4]? >>= fun x11 =>
  cV (fun k5 (st:(List Nat) × (List (List (List Nat))))=>gF a r7 x8 l9 k4 x11 k5 st.1 st.2) (x11.length - 0) 0 (x10,l11) >>= fun (l14,l15) =>
  cP 24 l9 ([l15]:List (List (List (List Nat)))) >>= fun l22 =>
  some l22
def mN (a:ax):Option (Int × (List (List al)) × (List (List (List (List Nat))))) :=
  bu a >>= fun r1 =>
  na (max 0 (r1).toNat) >>= fun u1 =>
  cV (fun k1 (st:(List (List Nat)))=>mO a k1 st) ((max 0 (r1).toNat) - 0) 0 ([]:List (List Nat)) >>= fun l2 =>
  cm a.zn l2 >>= fun r7 =>
  bp (⟨a.zn.zw,r7.2.1,r7.2.2,a.zn.ak⟩:ai) >>= fun r8 =>
  dO r8.S.T (1:Int) >>= fun x8 =>
  bu (⟨(⟨a.zn.zw,r7.2.1,r7.2.2,a.zn.ak⟩:ai),a.zp,a.zd,a.bb,a.bZ,a.dt⟩:ax) >>= fun r9 =>
  na (max 0 (r9).toNat) >>= fun u2 =>
  cV (fun k4 (st:(List (List (List (List Nat)))))=>qB a r7 x8 k4 st) ((max 0 (r9).toNat) - 0) 0 a.dt >>= fun l10 =>
  some (r7.2.1,r7.2.2,l10)
def jL (a:ax) (b:Int) (c:Int) (k1:Nat) (x4:List (List Nat)) (k2:Nat):Option (Out Unit Bool) :=
  x4[k2]? >>= fun x5 =>
  su b >>= fun r3 =>
  iG a.zp x5 r3 >>= fun r4 =>
  lH a b c ((k2:Nat):Int) >>= fun r5 =>
  su ((k1:Nat):Int) >>= fun r6 =>
  iG a.zp r5 r6 >>= fun r7 =>
  bif ((r4:Nat):Int) != ((r7:Nat):Int) then
    some (.fin true)
  else
    some (.go ())
def jK (a:ax) (b:Int) (c:Int) (x3:List (List (List Nat))) (k1:Nat):Option (Out Unit Bool) :=
  x3[k1]? >>= fun x4 =>
  qQ (fun k2 (st:Unit)=>jL a b c k1 x4 k2) (x4.length - 0) 0 () >>= fun r2=>lS r2 (fun x=>some (.fin x)) fun _ =>
  some (.go ())
def dH (a:ax) (b:Int) (c:Int):Option Bool :=
  gM a.bb c >>= fun x1 =>
  gM x1 b >>= fun x2 =>
  bif x2 then
    some false
  else
    gM a.dt c >>= fun x3 =>
    qQ (fun k1 (st:Unit)=>jK a b c x3 k1) (x3.length - 0) 0 () >>= fun r1=>lS r1 (fun x=>some x) fun _ =>
    some false
def kf (a:ax) (k1:Nat) (k2:Nat) (l3:List Nat):Option (List Nat) :=
  dH a ((k1:Nat):Int) ((k2:Nat):Int) >>= fun r4 =>
  bif r4 then
    cP 8 l3 ([1]:List Nat) >>= fun l5 =>
    some l5
  else
    cP 8 l3 ([0]:List Nat) >>= fun l6 =>
    some l6
def kb (a:ax) (r1:Int) (k1:Nat) (l1:List (List Nat)):Option (List (List Nat)) :=
  cV (fun k2 (st:(List Nat))=>kf a k1 k2 st) ((max 0 (r1).toNat) - 0) 0 ([]:List Nat) >>= fun l4 =>
  cP 24 l1 ([l4]:List (List Nat)) >>= fun l7 =>
  some l7
def ki (r5:(List (List Nat)) × Int × (List (List al))) (r6:Int) (k3:Nat) (k4:Nat) (l11:List (List Bool)):Option (List (List Bool)) :=
  l11[k3]? >>= fun x5 =>
  r5.1[k4]? >>= fun x6 =>
  dV x6 r6 >>= fun r9 =>
  r9[k3]? >>= fun x7 =>
  cP 1 x5 ([((x7:Nat):Int) != (0:Int)]:List Bool) >>= fun l13 =>
  some (l11.set k3 l13) >>= fun l14 =>
  some l14
def kg (r5:(List (List Nat)) × Int × (List (List al))) (r6:Int) (k3:Nat) (l9:List (List Bool)):Option (List (List Bool)) :=
  na (max 0 (r6).toNat) >>= fun u2 =>
  cV (fun k4 (st:(List (List Bool)))=>ki r5 r6 k3 k4 st) ((max 0 (r6).toNat) - 0) 0 l9 >>= fun l12 =>
  some l12
def eE (a:ax):Option ((List (List Bool)) × Int × (List (List al))) :=
  bu a >>= fun r1 =>
  na (max 0 (r1).toNat) >>= fun u1 =>
  cV (fun k1 (st:(List (List Nat)))=>kb a r1 k1 st) ((max 0 (r1).toNat) - 0) 0 ([]:List (List Nat)) >>= fun l2 =>
  cm a.zn l2 >>= fun r5 =>
  bu (⟨(⟨a.zn.zw,r5.2.1,r5.2.2,a.zn.ak⟩:ai),a.zp,a.zd,a.bb,a.bZ,a.dt⟩:ax) >>= fun r6 =>
  pi 24 r6 r6 ([]:List Bool) >>= fun l8 =>
  cV (fun k3 (st:(List (List Bool)))=>kg r5 r6 k3 st) (l8.length - 0) 0 l8 >>= fun l10 =>
  some (l10,r5.2.1,r5.2.2)
def nt (a:ax) (b:Int) (k1:Nat) (x1:Int):Option Int :=
  gM a.bb b >>= fun x4 =>
  x4[k1]? >>= fun x5 =>
  bif x5 then
    dO x1 (1:Int) >>= fun x6 =>
    some x6
  else
    gM a.bZ b >>= fun x7 =>
    x7[k1]? >>= fun x8 =>
    bif x8 then
      dO x1 (1:Int) >>= fun x9 =>
      some x9
    else
      some x1
def nB (a:ax) (b:Int):Option Bool :=
  bu a >>= fun r1 =>
  na (max 0 (r1).toNat) >>= fun u1 =>
  cV (fun k1 (st:Int)=>nt a b k1 st) ((max 0 (r1).toNat) - 0) 0 ((0:Nat):Int) >>= fun x3 =>
  bp a.zn >>= fun r3 =>
  some (decide (x3 > r3.S.T))
def qz (a:ax) (k1:Nat) (l2:List (List Nat)):Option (List (List Nat)) :=
  bp a.zn >>= fun r3 =>
  dO r3.S.T (1:Int) >>= fun x2 =>
  pi 8 x2 x2 (0:Nat) >>= fun l4 =>
  l2[k1]? >>= fun x3 =>
  some (l2.set k1 l4) >>= fun l5 =>
  some l5
def mM (a:ax) (b:Int) (c:Int) (d:Bool):Option (List (List Nat)) :=
  bif d then
    gL a c >>= fun r1 =>
    pi 24 r1 r1 (([]:List Nat):List Nat) >>= fun l1 =>
    cV (fun k1 (st:(List (List Nat)))=>qz a k1 st) (l1.length - 0) 0 l1 >>= fun l3 =>
    some l3
  else
    gM a.bb c >>= fun x4 =>
    gM x4 b >>= fun x5 =>
    bif x5 then
      gM a.dt c >>= fun x6 =>
      gM x6 b >>= fun x7 =>
      some x7
    else
      gM a.zd.Rows b >>= fun x8 =>
      gM x8 c >>= fun x9 =>
      b8 x9 >>= fun r4 =>
      some r4
def sC (a:ai) (b:aT) (r1:ae) (r3:(List (List Bool)) × Int × (List (List al))) (r4:Int × (List (List al)) × (List (List (List (List Nat))))) (r5:(List (List Bool)) × Int × (List (List al))) (k1:Nat) (l1:List Bool):Option (List Bool) :=
  nB (⟨(⟨a.zw,r5.2.1,r5.2.2,a.ak⟩:ai),r1.S.P,b,r3.1,r5.1,r4.2.2⟩:ax) ((k1:Nat):Int) >>= fun r8 =>
  cP 1 l1 ([r8]:List Bool) >>= fun l3 =>
  some l3
def sE (a:ai) (b:aT) (r1:ae) (r3:(List (List Bool)) × Int × (List (List al))) (r4:Int × (List (List al)) × (List (List (List (List Nat))))) (r5:(List (List Bool)) × Int × (List (List al))) (l2:List Bool) (k2:Nat) (k3:Nat) (l6:List (List (List Nat))):Option (List (List (List Nat))) :=
  l2[k3]? >>= fun x4 =>
  mM (⟨(⟨a.zw,r5.2.1,r5.2.2,a.ak⟩:ai),r1.S.P,b,r3.1,r5.1,r4.2.2⟩:ax) ((k2:Nat):Int) ((k3:Nat):Int) x4 >>= fun r11 =>
  cP 24 l6 ([r11]:List (List (List Nat))) >>= fun l8 =>
  some l8
def sD (a:ai) (b:aT) (r1:ae) (r3:(List (List Bool)) × Int × (List (List al))) (r4:Int × (List (List al)) × (List (List (List (List Nat))))) (r5:(List (List Bool)) × Int × (List (List al))) (r6:Int) (l2:List Bool) (k2:Nat) (l4:List (List (List (List Nat)))):Option (List (List (List (List Nat)))) :=
  cV (fun k3 (st:(List (List (List Nat))))=>sE a b r1 r3 r4 r5 l2 k2 k3 st) ((max 0 (r6).toNat) - 0) 0 ([]:List (List (List Nat))) >>= fun l7 =>
  cP 24 l4 ([l7]:List (List (List (List Nat)))) >>= fun l9 =>
  some l9
def pn (a:ai) (b:aT):Option (aS × Int × (List (List al))) :=
  bp a >>= fun r1 =>
  kq (⟨a,r1.S.P,b,([]:List (List Bool)),([]:List (List Bool)),([]:List (List (List (List Nat))))⟩:ax) >>= fun r2 =>
  fw (⟨(⟨a.zw,r2.2.1,r2.2.2,a.ak⟩:ai),r1.S.P,b,([]:List (List Bool)),([]:List (List Bool)),([]:List (List (List (List Nat))))⟩:ax) r2.1 >>= fun r3 =>
  mN (⟨(⟨a.zw,r3.2.1,r3.2.2,a.ak⟩:ai),r1.S.P,b,r3.1,([]:List (List Bool)),([]:List (List (List (List Nat))))⟩:ax) >>= fun r4 =>
  eE (⟨(⟨a.zw,r4.1,r4.2.1,a.ak⟩:ai),r1.S.P,b,r3.1,([]:List (List Bool)),r4.2.2⟩:ax) >>= fun r5 =>
  bu (⟨(⟨a.zw,r5.2.1,r5.2.2,a.ak⟩:ai),r1.S.P,b,r3.1,r5.1,r4.2.2⟩:ax) >>= fun r6 =>
  na (max 0 (r6).toNat) >>= fun u1 =>
  cV (fun k1 (st:(List Bool))=>sC a b r1 r3 r4 r5 k1 st) ((max 0 (r6).toNat) - 0) 0 ([]:List Bool) >>= fun l2 =>
  cV (fun k2 (st:(List (List (List (List Nat)))))=>sD a b r1 r3 r4 r5 r6 l2 k2 st) ((max 0 (r6).toNat) - 0) 0 ([]:List (List (List (List Nat)))) >>= fun l5 =>
  some ((⟨l5,l2⟩:aS),r5.2.1,r5.2.2)
def ug (a:ai) (b:List (List (List Nat))):Option (aS × Int × (List (List al)) × (List aH)) :=
  jM a b >>= fun r1 =>
  pn (⟨a.zw,r1.2.1,r1.2.2.1,r1.2.2.2⟩:ai) r1.1 >>= fun r2 =>
  some (r2.1,r2.2.1,r2.2.2,r1.2.2.2)
def cJ (a:aC):Option Int :=
  dO a.zs.T (3:Int) >>= fun x1 =>
  some x1
def rH (a:aS) (b:Int) (c:Int) (k1:Nat) (l1:List (List Nat)):Option (List (List Nat)) :=
  a.Rows[k1]? >>= fun x2 =>
  i9 b (1:Int) >>= fun x3 =>
  gM x2 x3 >>= fun x4 =>
  gM x4 c >>= fun x5 =>
  cP 24 l1 ([x5]:List (List Nat)) >>= fun l3 =>
  some l3
def nA (a:aS) (b:Int) (c:Int):Option (List (List Nat)) :=
  cV (fun k1 (st:(List (List Nat)))=>rH a b c k1 st) (a.Rows.length - 0) 0 ([]:List (List Nat)) >>= fun l2 =>
  some l2
def c8 (a:aC) (b:Int) (c:Int) (d:Int):Option (List (List Nat)) :=
  cJ a >>= fun r1 =>
  jl c r1 >>= fun x1 =>
  dO x1 d >>= fun x2 =>
  nA a.zd b x2 >>= fun r2 =>
  some r2
def fq (a:Nat) (b:Nat) (c:List Nat) (k1:Nat) (x1:Nat) (x2:Nat):Option (Nat × Nat) :=
  c[k1]? >>= fun x6 =>
  dc a x2 x6 >>= fun r4 =>
  md a x1 r4 >>= fun r5 =>
  dc a x2 b >>= fun r6 =>
  some (r5,r6)
def je (a:Nat) (b:Nat) (c:Nat) (d:Nat) (e:List Nat) (f:Nat):Option Bool :=
  dc a c d >>= fun r1 =>
  my a b >>= fun r2 =>
  cV (fun k1 (st:Nat × Nat)=>fq a b e k1 st.1 st.2) (e.length - 0) 0 (r1,r2) >>= fun (x4,x5) =>
  some (((x4:Nat):Int) == ((f:Nat):Int))
def eU (a:aC) (b:Int) (c:List Nat):Option Bool :=
  i9 ((c.length:Nat):Int) (1:Int) >>= fun x1 =>
  some (uu b) >>= fun x2 =>
  c[0]? >>= fun x3 =>
  c[1]? >>= fun x4 =>
  oK c (2:Int) x1 >>= fun l1 =>
  gM c x1 >>= fun x5 =>
  je a.zs.P x2 x3 x4 l1 x5 >>= fun r1 =>
  some r1
def mK (a:aC) (b:Int) (c:Int) (d:Int) (k1:Nat) (l1:List Nat):Option (List Nat) :=
  c8 a c d ((k1:Nat):Int) >>= fun r3 =>
  i9 b (1:Int) >>= fun x2 =>
  gM r3 x2 >>= fun x3 =>
  x3[0]? >>= fun x4 =>
  cP 8 l1 ([x4]:List Nat) >>= fun l3 =>
  some l3
def jh (a:aC) (b:Int) (c:Int) (d:Int):Option Bool :=
  cJ a >>= fun r1 =>
  na (max 0 (r1).toNat) >>= fun u1 =>
  cV (fun k1 (st:(List Nat))=>mK a b c d k1 st) ((max 0 (r1).toNat) - 0) 0 ([]:List Nat) >>= fun l2 =>
  eU a b l2 >>= fun r4 =>
  some r4
def gp (a:aC) (k1:Nat) (k2:Nat) (k3:Nat) (l5:List Nat):Option (List Nat) :=
  jh a ((k1:Nat):Int) ((k2:Nat):Int) ((k3:Nat):Int) >>= fun r4 =>
  bif r4 then
    cP 8 l5 ([0]:List Nat) >>= fun l7 =>
    some l7
  else
    cP 8 l5 ([1]:List Nat) >>= fun l8 =>
    some l8
def gn (a:aC) (b:Int) (k1:Nat) (k2:Nat) (l3:List Nat):Option (List Nat) :=
  na (max 0 (b).toNat) >>= fun u2 =>
  cV (fun k3 (st:(List Nat))=>gp a k1 k2 k3 st) ((max 0 (b).toNat) - 0) 0 l3 >>= fun l6 =>
  some l6
def gm (a:aC) (b:Int) (k1:Nat) (l1:List (List Nat)):Option (List (List Nat)) :=
  cV (fun k2 (st:(List Nat))=>gn a b k1 k2 st) ((max 1 (a.zs.N+1).toNat) - 1) 1 ([]:List Nat) >>= fun l4 =>
  cP 24 l1 ([l4]:List (List Nat)) >>= fun l9 =>
  some l9
def gr (a:aC) (b:Int) (k4:Nat) (r7:(List Nat)) (k5:Nat) (l12:List aV):Option (List aV) :=
  r7[k5]? >>= fun x8 =>
  (
    bif ((x8:Nat):Int) != (0:Int) then
      wR ((k5:Nat):Int) b >>= fun x10 =>
      gM a.zd.aZ x10 >>= fun x11 =>
      some (!x11)
    else
      some false
  ) >>= fun x9 =>
  bif x9 then
    dO ((k4:Nat):Int) (1:Int) >>= fun x12 =>
    wR ((k5:Nat):Int) b >>= fun x13 =>
    dO x13 (1:Int) >>= fun x14 =>
    GG ((k5:Nat):Int) b >>= fun x15 =>
    cP 24 l12 ([(⟨x12,x14,x15⟩:aV)]:List aV) >>= fun l14 =>
    some l14
  else
    some l12
def eM (a:aC) (b:Int) (r5:(List (List Nat)) × Int × (List (List al))) (k4:Nat) (l10:List aV):Option (List aV) :=
  r5.1[k4]? >>= fun x5 =>
  jl a.zs.N b >>= fun x6 =>
  dV x5 x6 >>= fun r7 =>
  cV (fun k5 (st:(List aV))=>gr a b k4 r7 k5 st) (r7.length - 0) 0 l10 >>= fun l13 =>
  some l13
def fv (a:aC) (b:Int):Option ((List aV) × Int × (List (List al))) :=
  na (max 1 (a.zs.N+1).toNat) >>= fun u1 =>
  cV (fun k1 (st:(List (List Nat)))=>gm a b k1 st) ((max 1 (a.zs.N+1).toNat) - 1) 1 ([]:List (List Nat)) >>= fun l2 =>
  cm a.zn l2 >>= fun r5 =>
  na (max 0 (a.zs.N).toNat) >>= fun u3 =>
  cV (fun k4 (st:(List aV))=>eM a b r5 k4 st) ((max 0 (a.zs.N).toNat) - 0) 0 ([]:List aV) >>= fun l11 =>
  some (l11,r5.2.1,r5.2.2)
def lv (k1:Nat) (x2:List Nat) (k2:Nat) (l4:List (List (List Nat))):Option (List (List (List Nat))) :=
  l4[k1]? >>= fun x4 =>
  cP 24 x4 ([x2]:List (List Nat)) >>= fun l6 =>
  some (l4.set k1 l6) >>= fun l7 =>
  some l7
def lu (a:List (List Nat)) (k1:Nat) (l2:List (List (List Nat))):Option (List (List (List Nat))) :=
  a[k1]? >>= fun x2 =>
  cV (fun k2 (st:(List (List (List Nat))))=>lv k1 x2 k2 st) (a.length - 0) 0 l2 >>= fun l5 =>
  some l5
def lz (k3:Nat) (r6:(List Nat)) (k5:Nat) (l15:List (List (List Nat))):Option (List (List (List Nat))) :=
  r6[k5]? >>= fun x11 =>
  l15[k3]? >>= fun x12 =>
  x12[k5]? >>= fun x13 =>
  cP 8 x13 ([x11]:List Nat) >>= fun l17 =>
  some (x12.set k5 l17) >>= fun l18 =>
  some (l15.set k3 l18) >>= fun l19 =>
  some l19
def ly (a:Int) (k3:Nat) (x7:List (List Nat)) (k4:Nat) (l13:List (List (List Nat))):Option (List (List (List Nat))) :=
  x7[k4]? >>= fun x9 =>
  dV x9 a >>= fun r6 =>
  cV (fun k5 (st:(List (List (List Nat))))=>lz k3 r6 k5 st) (r6.length - 0) 0 l13 >>= fun l16 =>
  some l16
def lx (a:Int) (r3:(List (List (List Nat))) × Int × (List (List al))) (k3:Nat) (l9:List (List (List Nat))):Option (List (List (List Nat))) :=
  pi 24 a a ([]:List Nat) >>= fun l11 =>
  l9[k3]? >>= fun x6 =>
  some (l9.set k3 l11) >>= fun l12 =>
  r3.1[k3]? >>= fun x7 =>
  cV (fun k4 (st:(List (List (List Nat))))=>ly a k3 x7 k4 st) (x7.length - 0) 0 l12 >>= fun l14 =>
  some l14
def lc (a:ai) (b:List (List Nat)) (c:Int):Option ((List (List (List Nat))) × Int × (List (List al))) :=
  pi 24 ((b.length:Nat):Int) ((b.length:Nat):Int) ([]:List (List Nat)) >>= fun l1 =>
  cV (fun k1 (st:(List (List (List Nat))))=>lu b k1 st) (b.length - 0) 0 l1 >>= fun l3 =>
  hJ a l3 >>= fun r3 =>
  pi 24 ((r3.1.length:Nat):Int) ((r3.1.length:Nat):Int) ([]:List (List Nat)) >>= fun l8 =>
  cV (fun k3 (st:(List (List (List Nat))))=>lx c r3 k3 st) (r3.1.length - 0) 0 l8 >>= fun l10 =>
  some (l10,r3.2.1,r3.2.2)
def j8 (a:List Nat) (k1:Nat) (l1:List aJ):Option (List aJ) :=
  a[k1]? >>= fun x2 =>
  dO ((k1:Nat):Int) (1:Int) >>= fun x3 =>
  some (uu x3) >>= fun x4 =>
  cP 16 l1 ([(⟨x4,x2⟩:aJ)]:List aJ) >>= fun l3 =>
  some l3
def dX (a:List Nat):Option (List aJ) :=
  cV (fun k1 (st:(List aJ))=>j8 a k1 st) (a.length - 0) 0 ([]:List aJ) >>= fun l2 =>
  some l2
def lW (a:List aJ) (k1:Nat) (l1:List (Int × Bool)):Option (Out (List (Int × Bool)) Bool) :=
  a[k1]? >>= fun x6 =>
  bif (mU l1 ((x6.X:Nat):Int)).getD false then
    some (.fin false)
  else
    some (.go (se l1 ((x6.X:Nat):Int) true))
def lN (a:List aJ) (b:Int) (c:Int):Option Bool :=
  (
    bif decide (b < (0:Int)) then
      some true
    else
      bif decide (c < (0:Int)) then
        some true
      else
        bif decide (c > ((a.length:Nat):Int)) then
          some true
        else
          bif decide (b > ((a.length:Nat):Int)) then
            some true
          else
            dO b (1:Int) >>= fun x2 =>
            jl (2:Int) c >>= fun x3 =>
            dO x2 x3 >>= fun x4 =>
            some (decide (((a.length:Nat):Int) < x4))
  ) >>= fun x1 =>
  bif x1 then
    some false
  else
    qQ (fun k1 (st:(List (Int × Bool)))=>lW a k1 st) (a.length - 0) 0 ([]:List (Int × Bool)) >>= fun r1=>lS r1 (fun x=>some x) fun l2 =>
    some true
def qO (a:List Nat) (b:List (List Nat)):Option Bool :=
  b[0]? >>= fun x1 =>
  some (((a.length:Nat):Int) != ((x1.length:Nat):Int))
def cR (a:List (List Nat)) (b:List (List Nat)) (k1:Nat):Option (Out Unit Int) :=
  a[k1]? >>= fun x1 =>
  qO x1 b >>= fun r2 =>
  bif r2 then
    some (.fin ((k1:Nat):Int))
  else
    some (.go ())
def cZ (a:List (List Nat)) (b:List (List Nat)):Option Int :=
  qQ (fun k1 (st:Unit)=>cR a b k1) (a.length - 0) 0 () >>= fun r1=>lS r1 (fun x=>some x) fun _ =>
  some (-1)
def cQ (a:List (List Nat)) (b:List (List Nat)):Option Bool :=
  cZ a b >>= fun r1 =>
  some (decide (r1 ≥ (0:Int)))
def qt (a:List (List Nat)):Option Bool :=
  cQ a a >>= fun r1 =>
  some (!r1)
def qs (a:List (List Nat)):Option Int :=
  bif ((a.length:Nat):Int) == (0:Int) then
    some ((0:Nat):Int)
  else
    a[0]? >>= fun x1 =>
    some ((x1.length:Nat):Int)
def mw (a:Nat) (x1:Nat) (x2:Nat) (x3:Nat):Option (Out (Nat × Nat × Nat) Nat) :=
  bif decide (((x2:Nat):Int) > (0:Int)) then
    some (wI x2 1) >>= fun x6 =>
    bif ((x6:Nat):Int) == (1:Int) then
      dc a x3 x1 >>= fun r2 =>
      dc a x1 x1 >>= fun r3 =>
      uR x2 (1:Int) >>= fun x7 =>
      some (.go (r3,x7,r2))
    else
      dc a x1 x1 >>= fun r4 =>
      uR x2 (1:Int) >>= fun x8 =>
      some (.go (r4,x8,x3))
  else
    some (.fin x3)
def tX (a:Nat) (b:Nat) (c:Nat):Option Nat :=
  vj (fun (st:Nat × Nat × Nat)=>mw a st.1 st.2.1 st.2.2) big (b,c,1) >>= fun x5 =>
  some x5
def jT (a:Nat) (b:Nat):Option (Nat × Int) :=
  bif ((b:Nat):Int) == (0:Int) then
    some (0,((8:Nat):Int))
  else
    some (yx a 2) >>= fun x1 =>
    tX a b x1 >>= fun r1 =>
    some (r1,((0:Nat):Int))
def ng (k1:Nat) (l1:List (List Nat)):Option (List (List Nat)) :=
  l1[k1]? >>= fun x2 =>
  cx x2 >>= fun r3 =>
  some (l1.set k1 r3) >>= fun l3 =>
  some l3
def gZ (l4:List (List Nat)) (k2:Nat) (x6:Int) (x7:Int):Option (Out (Int × Int) Int) :=
  (
    bif decide (x7 < ((l4.length:Nat):Int)) then
      some (decide (x6 < (0:Int)))
    else
      some false
  ) >>= fun x10 =>
  bif x10 then
    gM l4 x7 >>= fun x11 =>
    x11[k2]? >>= fun x12 =>
    bif ((x12:Nat):Int) != (0:Int) then
      dO x7 (1:Int) >>= fun x13 =>
      some (.go (x7,x13))
    else
      dO x7 (1:Int) >>= fun x14 =>
      some (.go (x6,x14))
  else
    some (.fin x6)
def kX (a:Nat) (l5:List Int) (x18:List Nat) (r8:Nat × Int) (k3:Nat) (l10:List (List Nat)):Option (List (List Nat)) :=
  x18[k3]? >>= fun x21 =>
  l10[l5.length]? >>= fun x22 =>
  x22[k3]? >>= fun x23 =>
  dc a r8.1 x23 >>= fun r10 =>
  some (x22.set k3 r10) >>= fun l12 =>
  some (l10.set l5.length l12) >>= fun l13 =>
  some l13
def kZ (a:Nat) (l5:List Int) (k4:Nat) (x25:List Nat) (x28:Nat) (x29:List Nat) (k5:Nat) (l16:List (List Nat)):Option (List (List Nat)) :=
  x29[k5]? >>= fun x31 =>
  l16[l5.length]? >>= fun x32 =>
  x32[k5]? >>= fun x33 =>
  x25[k5]? >>= fun x34 =>
  l16[k4]? >>= fun x35 =>
  x35[k5]? >>= fun x36 =>
  dc a x28 x33 >>= fun r13 =>
  md a x36 r13 >>= fun r14 =>
  some (x35.set k5 r14) >>= fun l18 =>
  some (l16.set k4 l18) >>= fun l19 =>
  some l19
def kY (a:Nat) (l5:List Int) (k2:Nat) (k4:Nat) (l14:List (List Nat)):Option (List (List Nat)) :=
  l14[k4]? >>= fun x25 =>
  (
    bif ((k4:Nat):Int) == ((l5.length:Nat):Int) then
      some true
    else
      x25[k2]? >>= fun x27 =>
      some (((x27:Nat):Int) == (0:Int))
  ) >>= fun x26 =>
  bif x26 then
    some l14
  else
    x25[k2]? >>= fun x28 =>
    l14[l5.length]? >>= fun x29 =>
    na x29.length >>= fun u4 =>
    cV (fun k5 (st:(List (List Nat)))=>kZ a l5 k4 x25 x28 x29 k5 st) (x29.length - 0) 0 l14 >>= fun l17 =>
    some l17
def gY (a:Nat) (k2:Nat) (l4:List (List Nat)) (l5:List Int) (x3:Nat):Option ((List (List Nat)) × (List Int) × Nat) :=
  vj (fun (st:Int × Int)=>gZ l4 k2 st.1 st.2) big ((-1),((l5.length:Nat):Int)) >>= fun x9 =>
  bif decide (x9 < (0:Int)) then
    some (l4,l5,x3)
  else
    (
      bif x9 != ((l5.length:Nat):Int) then
        l4[l5.length]? >>= fun x16 =>
        gM l4 x9 >>= fun x17 =>
        some ((l4.set x9.toNat x16).set l5.length x17) >>= fun l9 =>
        mc a x3 >>= fun r6 =>
        some (l9,r6)
      else
        some (l4,x3)
    ) >>= fun (l8,x15) =>
    l8[l5.length]? >>= fun x18 =>
    x18[k2]? >>= fun x19 =>
    dc a x15 x19 >>= fun r7 =>
    jT a x19 >>= fun r8 =>
    na x18.length >>= fun u3 =>
    cV (fun k3 (st:(List (List Nat)))=>kX a l5 x18 r8 k3 st) (x18.length - 0) 0 l8 >>= fun l11 =>
    cV (fun k4 (st:(List (List Nat)))=>kY a l5 k2 k4 st) (l11.length - 0) 0 l11 >>= fun l15 =>
    cP 8 l5 ([((k2:Nat):Int)]:List Int) >>= fun l20 =>
    some (l15,l20,r7)
def lD (a:Nat) (b:List (List Nat)) (c:Int):Option lK :=
  b8 b >>= fun r1 =>
  na r1.length >>= fun u1 =>
  cV (fun k1 (st:(List (List Nat)))=>ng k1 st) (r1.length - 0) 0 r1 >>= fun l2 =>
  na (max 0 (c).toNat) >>= fun u2 =>
  cV (fun k2 (st:(List (List Nat)) × (List Int) × Nat)=>gY a k2 st.1 st.2.1 st.2.2) ((max 0 (c).toNat) - 0) 0 (l2,([]:List Int),1) >>= fun (l6,l7,x5) =>
  some (⟨a,l6,l7,x5⟩:lK)
def lM (a:List (List Nat)) (b:List Nat) (k1:Nat) (l1:List (List Nat)):Option (List (List Nat)) :=
  a[k1]? >>= fun x3 =>
  cx x3 >>= fun r4 =>
  b[k1]? >>= fun x4 =>
  cP 8 r4 ([x4]:List Nat) >>= fun l3 =>
  cP 24 l1 ([l3]:List (List Nat)) >>= fun l4 =>
  some l4
def oP (r2:Int) (l5:List (List Nat)) (k2:Nat):Option (Out Unit ((List Nat) × Int)) :=
  l5[k2]? >>= fun x5 =>
  gM x5 r2 >>= fun x6 =>
  bif ((x6:Nat):Int) != (0:Int) then
    some (.fin (([]:List Nat),((6:Nat):Int)))
  else
    some (.go ())
def oQ (r2:Int) (r5:lK) (k3:Nat) (l7:List Nat):Option (List Nat) :=
  r5.zpivot[k3]? >>= fun x8 =>
  r5.zm[k3]? >>= fun x9 =>
  gM x9 r2 >>= fun x10 =>
  gM l7 x8 >>= fun x11 =>
  some (l7.set x8.toNat x10) >>= fun l9 =>
  some l9
def pg (a:Nat) (b:List (List Nat)) (c:List Nat):Option ((List Nat) × Int) :=
  (
    qt b >>= fun r1 =>
    bif !r1 then
      some true
    else
      some (((b.length:Nat):Int) != ((c.length:Nat):Int))
  ) >>= fun x1 =>
  bif x1 then
    some (([]:List Nat),((1:Nat):Int))
  else
    qs b >>= fun r2 =>
    cV (fun k1 (st:(List (List Nat)))=>lM b c k1 st) (b.length - 0) 0 ([]:List (List Nat)) >>= fun l2 =>
    lD a l2 r2 >>= fun r5 =>
    oK r5.zm ((r5.zpivot.length:Nat):Int) ((r5.zm.length:Nat):Int) >>= fun l5 =>
    qQ (fun k2 (st:Unit)=>oP r2 l5 k2) (l5.length - 0) 0 () >>= fun r6=>lS r6 (fun x=>some x) fun _ =>
    pi 8 r2 r2 (0:Nat) >>= fun l6 =>
    cV (fun k3 (st:(List Nat))=>oQ r2 r5 k3 st) (r5.zpivot.length - 0) 0 l6 >>= fun l8 =>
    some (l8,((0:Nat):Int))
def fO (a:Nat) (x2:aJ) (k2:Nat) (l5:List Nat) (x5:Nat):Option ((List Nat) × Nat) :=
  cP 8 l5 ([x5]:List Nat) >>= fun l7 =>
  dc a x5 x2.X >>= fun r3 =>
  some (l7,r3)
def fP (a:Nat) (x2:aJ) (k3:Nat) (l8:List Nat) (x8:Nat):Option ((List Nat) × Nat) :=
  mc a x8 >>= fun r5 =>
  cP 8 l8 ([r5]:List Nat) >>= fun l10 =>
  dc a x8 x2.X >>= fun r6 =>
  some (l10,r6)
def ie (a:Nat) (b:List aJ) (c:Int) (d:Int) (k1:Nat) (l1:List (List Nat)) (l2:List Nat):Option ((List (List Nat)) × (List Nat)) :=
  b[k1]? >>= fun x2 =>
  dO c d >>= fun x3 =>
  dO x3 (1:Int) >>= fun x4 =>
  na (max 0 (x4).toNat) >>= fun u1 =>
  cV (fun k2 (st:(List Nat) × Nat)=>fO a x2 k2 st.1 st.2) ((max 0 (x4).toNat) - 0) 0 (([]:List Nat),1) >>= fun (l6,x7) =>
  na (max 0 (d).toNat) >>= fun u2 =>
  cV (fun k3 (st:(List Nat) × Nat)=>fP a x2 k3 st.1 st.2) ((max 0 (d).toNat) - 0) 0 (l6,x2.Y) >>= fun (l9,x10) =>
  cP 24 l1 ([l9]:List (List Nat)) >>= fun l11 =>
  cP 8 l2 ([x10]:List Nat) >>= fun l12 =>
  some (l11,l12)
def jQ (a:Nat) (b:List aJ) (c:Int) (d:Int):Option ((List Nat) × (List Nat) × Bool) :=
  cV (fun k1 (st:(List (List Nat)) × (List Nat))=>ie a b c d k1 st.1 st.2) (b.length - 0) 0 (([]:List (List Nat)),([]:List Nat)) >>= fun (l3,l4) =>
  pg a l3 l4 >>= fun r7 =>
  bif r7.2 != (0:Int) then
    some (([]:List Nat),([]:List Nat),false)
  else
    dO c d >>= fun x11 =>
    dO x11 (1:Int) >>= fun x12 =>
    oK r7.1 (0:Int) x12 >>= fun l13 =>
    oK r7.1 x12 ((r7.1.length:Nat):Int) >>= fun l14 =>
    cP 8 ([]:List Nat) l14 >>= fun l15 =>
    cP 8 l15 ([1]:List Nat) >>= fun l16 =>
    some (l13,l16,true)
def pY (a:Nat) (r1:(List Nat)) (x6:Int) (r5:Nat) (k1:Nat) (l9:List Nat):Option (List Nat) :=
  r1[k1]? >>= fun x11 =>
  dO x6 ((k1:Nat):Int) >>= fun x12 =>
  gM l9 x12 >>= fun x13 =>
  dc a r5 x11 >>= fun r7 =>
  md a x13 r7 >>= fun r8 =>
  some (l9.set x12.toNat r8) >>= fun l11 =>
  some l11
def jn (a:Nat) (r1:(List Nat)) (r2:Nat × Int) (l2:List Nat) (l3:List Nat):Option (Out ((List Nat) × (List Nat)) ((List Nat) × (List Nat))) :=
  bif decide (((l2.length:Nat):Int) ≥ ((r1.length:Nat):Int)) then
    i9 ((l2.length:Nat):Int) ((r1.length:Nat):Int) >>= fun x6 =>
    i9 ((l2.length:Nat):Int) (1:Int) >>= fun x7 =>
    gM l2 x7 >>= fun x8 =>
    dc a x8 r2.1 >>= fun r5 =>
    gM l3 x6 >>= fun x9 =>
    some (l3.set x6.toNat r5) >>= fun l8 =>
    cV (fun k1 (st:(List Nat))=>pY a r1 x6 r5 k1 st) (r1.length - 0) 0 l2 >>= fun l10 =>
    iH l10 >>= fun r9 =>
    some (.go (r9,l8))
  else
    some (.fin (l2,l3))
def qu (a:Nat) (b:List Nat) (c:List Nat):Option ((List Nat) × (List Nat) × Int) :=
  iH c >>= fun r1 =>
  bif ((r1.length:Nat):Int) == (0:Int) then
    some (([]:List Nat),([]:List Nat),((8:Nat):Int))
  else
    i9 ((r1.length:Nat):Int) (1:Int) >>= fun x1 =>
    gM r1 x1 >>= fun x2 =>
    jT a x2 >>= fun r2 =>
    iH b >>= fun r3 =>
    i9 ((r3.length:Nat):Int) ((r1.length:Nat):Int) >>= fun x3 =>
    dO x3 (1:Int) >>= fun x4 =>
    some (max (0:Int) x4) >>= fun x5 =>
    pi 8 x5 x5 (0:Nat) >>= fun l1 =>
    vj (fun (st:(List Nat) × (List Nat))=>jn a r1 r2 st.1 st.2) big (r3,l1) >>= fun (l6,l7) =>
    iH l7 >>= fun r10 =>
    some (r10,l6,((0:Nat):Int))
def f9 (a:Nat) (b:List Nat) (c:List aJ) (k1:Nat) (l1:List Int):Option (List Int) :=
  c[k1]? >>= fun x2 =>
  iG a b x2.X >>= fun r2 =>
  bif ((r2:Nat):Int) != ((x2.Y:Nat):Int) then
    cP 8 l1 ([((k1:Nat):Int)]:List Int) >>= fun l3 =>
    some l3
  else
    some l1
def fu (a:Nat) (b:List Nat) (c:List aJ):Option (List Int) :=
  cV (fun k1 (st:(List Int))=>f9 a b c k1 st) (c.length - 0) 0 ([]:List Int) >>= fun l2 =>
  some l2
def dY (a:Nat) (b:List aJ) (c:Int) (d:Int):Option ((List Nat) × (List Int) × Int) :=
  lN b c d >>= fun r1 =>
  bif !r1 then
    some (([]:List Nat),([]:List Int),((1:Nat):Int))
  else
    jQ a b c d >>= fun r2 =>
    bif !r2.2.2 then
      some (([]:List Nat),([]:List Int),((9:Nat):Int))
    else
      qu a r2.1 r2.2.1 >>= fun r3 =>
      (
        bif decide (((r3.2.1.length:Nat):Int) > (0:Int)) then
          some true
        else
          mg r3.1 >>= fun r4 =>
          some (decide (r4 > c))
      ) >>= fun x1 =>
      bif x1 then
        some (([]:List Nat),([]:List Int),((9:Nat):Int))
      else
        fu a r3.1 b >>= fun r5 =>
        bif decide (((r5.length:Nat):Int) > d) then
          some (([]:List Nat),([]:List Int),((9:Nat):Int))
        else
          some (r3.1,r5,((0:Nat):Int))
def eA (a:Int):Option (List Nat) :=
  bif decide (a < (0:Int)) then
    none
  else
    i9 a (0:Int) >>= fun x1 =>
    bif decide (x1 > (0:Int)) then
      pi 8 x1 x1 (0:Nat) >>= fun l1 =>
      oK l1 (0:Int) (0:Int) >>= fun l2 =>
      some l2
    else
      some ([]:List Nat)
def df (a:List (List Nat)) (k1:Nat) (x1:Int):Option Int :=
  a[k1]? >>= fun x4 =>
  dO x1 ((x4.length:Nat):Int) >>= fun x5 =>
  bif decide (x5 < (0:Int)) then
    none
  else
    some x5
def dh (a:List (List Nat)) (k2:Nat) (l1:List Nat):Option (List Nat) :=
  a[k2]? >>= fun x7 =>
  cP 8 l1 x7 >>= fun l3 =>
  some l3
def fc (a:List (List Nat)):Option (List Nat) :=
  cV (fun k1 (st:Int)=>df a k1 st) (a.length - 0) 0 ((0:Nat):Int) >>= fun x3 =>
  eA x3 >>= fun r2 =>
  cV (fun k2 (st:(List Nat))=>dh a k2 st) (a.length - 0) 0 r2 >>= fun l2 =>
  some l2
def lp (a:List (List (List Nat))) (b:List Int) (r1:ae) (k1:Nat) (k2:Nat) (l5:List (List Nat)):Option (List (List Nat)) :=
  a[k2]? >>= fun x3 =>
  l5[k1]? >>= fun x4 =>
  x3[k1]? >>= fun x5 =>
  b[k2]? >>= fun x6 =>
  some (uu x6) >>= fun x7 =>
  iG r1.S.P x5 x7 >>= fun r4 =>
  cP 8 x4 ([r4]:List Nat) >>= fun l7 =>
  some (l5.set k1 l7) >>= fun l8 =>
  some l8
def ln (a:List (List (List Nat))) (b:List Int) (r1:ae) (k1:Nat) (l3:List (List Nat)):Option (List (List Nat)) :=
  cV (fun k2 (st:(List (List Nat)))=>lp a b r1 k1 k2 st) (a.length - 0) 0 l3 >>= fun l6 =>
  some l6
def lr (r1:ae) (k3:Nat) (x9:List (List Nat)) (k4:Nat) (l11:List (List (List Nat))):Option (List (List (List Nat))) :=
  x9[k4]? >>= fun x11 =>
  dX x11 >>= fun r8 =>
  dY r1.S.P r8 r1.S.T r1.S.T >>= fun r9 =>
  l11[k3]? >>= fun x12 =>
  dO r1.S.T (1:Int) >>= fun x13 =>
  i9 x13 ((r9.1.length:Nat):Int) >>= fun x14 =>
  pi 8 x14 x14 (0:Nat) >>= fun l13 =>
  fc ([r9.1,l13]:List (List Nat)) >>= fun r10 =>
  cP 24 x12 ([r10]:List (List Nat)) >>= fun l14 =>
  some (l11.set k3 l14) >>= fun l15 =>
  some l15
def lq (r1:ae) (r5:(List (List (List Nat))) × Int × (List (List al))) (k3:Nat) (l9:List (List (List Nat))):Option (List (List (List Nat))) :=
  r5.1[k3]? >>= fun x9 =>
  cV (fun k4 (st:(List (List (List Nat))))=>lr r1 k3 x9 k4 st) (x9.length - 0) 0 l9 >>= fun l12 =>
  some l12
def hO (a:ai) (b:List (List (List Nat))) (c:List Int):Option ((List (List (List Nat))) × Int × (List (List al))) :=
  bp a >>= fun r1 =>
  pi 24 r1.S.N r1.S.N ([]:List (List Nat)) >>= fun l1 =>
  bif ((b.length:Nat):Int) == (0:Int) then
    some (l1,a.ah,a.au)
  else
    pi 24 r1.S.N r1.S.N ([]:List Nat) >>= fun l2 =>
    cV (fun k1 (st:(List (List Nat)))=>ln b c r1 k1 st) (l2.length - 0) 0 l2 >>= fun l4 =>
    lc a l4 ((b.length:Nat):Int) >>= fun r5 =>
    cV (fun k3 (st:(List (List (List Nat))))=>lq r1 r5 k3 st) (r5.1.length - 0) 0 l1 >>= fun l10 =>
    some (l10,r5.2.1,r5.2.2)
def iZ (r1:ae) (x1:Int) (k1:Nat) (x2:Bool):Option Bool :=
  r1.af[k1]? >>= fun x5 =>
  bif x2 then
    some true
  else
    some (x5 == x1)
def iY (r1:ae) (x1:Int):Option (Out Int (Int ⊕ Unit)) :=
  cV (fun k1 (st:Bool)=>iZ r1 x1 k1 st) (r1.af.length - 0) 0 false >>= fun x4 =>
  bif !x4 then
    i9 x1 (1:Int) >>= fun x6 =>
    some (.fin (.inl x6))
  else
    dO x1 (1:Int) >>= fun x7 =>
    some (.go x7)
def ir (a:aC):Option Int :=
  bp a.zn >>= fun r1 =>
  vj (fun (st:Int)=>iY r1 st) big ((1:Nat):Int) >>= fun r2=>GU r2 (fun x=>some x) fun _ =>
  none
def fa (a:aC) (x2:aV) (k2:Nat) (l6:List (List (List Nat))) (l7:List Int):Option ((List (List (List Nat))) × (List Int)) :=
  c8 a x2.zdealer x2.zm ((k2:Nat):Int) >>= fun r4 =>
  cP 24 l6 ([r4]:List (List (List Nat))) >>= fun l10 =>
  cP 8 l7 ([x2.zby]:List Int) >>= fun l11 =>
  some (l10,l11)
def dG (a:aC) (b:List aV) (k1:Nat) (l2:List (List (List Nat))) (l3:List Int):Option ((List (List (List Nat))) × (List Int)) :=
  b[k1]? >>= fun x2 =>
  cJ a >>= fun r2 =>
  na (max 0 (r2).toNat) >>= fun u1 =>
  cV (fun k2 (st:(List (List (List Nat))) × (List Int))=>fa a x2 k2 st.1 st.2) ((max 0 (r2).toNat) - 0) 0 (l2,l3) >>= fun (l8,l9) =>
  some (l8,l9)
def lF (r5:(List (List (List Nat))) × Int × (List (List al))) (r6:Int) (k3:Nat) (r8:Int) (k4:Nat) (l14:List Nat):Option (List Nat) :=
  gM r5.1 r6 >>= fun x7 =>
  jl ((k3:Nat):Int) r8 >>= fun x8 =>
  dO x8 ((k4:Nat):Int) >>= fun x9 =>
  gM x7 x9 >>= fun x10 =>
  x10[0]? >>= fun x11 =>
  cP 8 l14 ([x11]:List Nat) >>= fun l16 =>
  some l16
def i4 (a:aC) (b:List aV) (r5:(List (List (List Nat))) × Int × (List (List al))) (r6:Int) (k3:Nat) (l12:List Bool):Option (List Bool) :=
  b[k3]? >>= fun x5 =>
  cJ (⟨(⟨a.zn.zw,r5.2.1,r5.2.2,a.zn.ak⟩:ai),a.zs,a.zd⟩:aC) >>= fun r8 =>
  na (max 0 (r8).toNat) >>= fun u2 =>
  cV (fun k4 (st:(List Nat))=>lF r5 r6 k3 r8 k4 st) ((max 0 (r8).toNat) - 0) 0 ([]:List Nat) >>= fun l15 =>
  eU (⟨(⟨a.zn.zw,r5.2.1,r5.2.2,a.zn.ak⟩:ai),a.zs,a.zd⟩:aC) x5.zby l15 >>= fun r10 =>
  bif !r10 then
    i9 x5.zdealer (1:Int) >>= fun x12 =>
    gM l12 x12 >>= fun x13 =>
    some (l12.set x12.toNat true) >>= fun l17 =>
    some l17
  else
    some l12
def iu (a:aC) (b:List aV):Option ((List Bool) × Int × (List (List al))) :=
  pi 1 a.zs.N a.zs.N (false:Bool) >>= fun l1 =>
  cV (fun k1 (st:(List (List (List Nat))) × (List Int))=>dG a b k1 st.1 st.2) (b.length - 0) 0 (([]:List (List (List Nat))),([]:List Int)) >>= fun (l4,l5) =>
  hO a.zn l4 l5 >>= fun r5 =>
  ir (⟨(⟨a.zn.zw,r5.2.1,r5.2.2,a.zn.ak⟩:ai),a.zs,a.zd⟩:aC) >>= fun r6 =>
  cV (fun k3 (st:(List Bool))=>i4 a b r5 r6 k3 st) (b.length - 0) 0 (iK l1 a.zd.aZ) >>= fun l13 =>
  some (l13,r5.2.1,r5.2.2)
def lG (a:aC) (k1:Nat) (l1:List (List Nat)):Option (List (List Nat)) :=
  dO a.zs.T (1:Int) >>= fun x2 =>
  pi 8 x2 x2 (0:Nat) >>= fun l3 =>
  cP 24 l1 ([l3]:List (List Nat)) >>= fun l4 =>
  some l4
def iv (a:aC):Option (List (List Nat)) :=
  na (max 0 (a.zs.N).toNat) >>= fun u1 =>
  cV (fun k1 (st:(List (List Nat)))=>lG a k1 st) ((max 0 (a.zs.N).toNat) - 0) 0 ([]:List (List Nat)) >>= fun l2 =>
  some l2
def fQ (a:ai) (b:Int) (r1:ae) (k1:Nat) (l3:List aH) (l4:List (List (List (List Nat)))) (l5:List Bool) (l6:List (List (List Nat))):Option ((List aH) × (List (List (List (List Nat)))) × (List Bool) × (List (List (List Nat)))) :=
  iM (⟨(⟨a.zw,a.ah,a.au,l3⟩:ai),r1.S,(⟨l4,l5⟩:aS)⟩:aC) ((k1:Nat):Int) b >>= fun r3 =>
  cP 24 l6 ([r3.1]:List (List (List Nat))) >>= fun l11 =>
  some (r3.2,l4,l5,l11)
def p8 (a:ai) (r1:ae) (r4:aS × Int × (List (List al)) × (List aH)) (r6:(List Bool) × Int × (List (List al))) (k2:Nat) (k3:Nat) (l14:List bm):Option (List bm) :=
  c8 (⟨(⟨a.zw,r6.2.1,r6.2.2,r4.2.2.2⟩:ai),r1.S,r4.1⟩:aC) ((k2:Nat):Int) ((k3:Nat):Int) ((0:Nat):Int) >>= fun r9 =>
  c8 (⟨(⟨a.zw,r6.2.1,r6.2.2,r4.2.2.2⟩:ai),r1.S,r4.1⟩:aC) ((k2:Nat):Int) ((k3:Nat):Int) ((1:Nat):Int) >>= fun r10 =>
  cJ (⟨(⟨a.zw,r6.2.1,r6.2.2,r4.2.2.2⟩:ai),r1.S,r4.1⟩:aC) >>= fun r11 =>
  i9 r11 (1:Int) >>= fun x4 =>
  c8 (⟨(⟨a.zw,r6.2.1,r6.2.2,r4.2.2.2⟩:ai),r1.S,r4.1⟩:aC) ((k2:Nat):Int) ((k3:Nat):Int) x4 >>= fun r12 =>
  i9 ((k2:Nat):Int) (1:Int) >>= fun x5 =>
  gM r6.1 x5 >>= fun x6 =>
  bif x6 then
    iv (⟨(⟨a.zw,r6.2.1,r6.2.2,r4.2.2.2⟩:ai),r1.S,r4.1⟩:aC) >>= fun r13 =>
    cP 72 l14 ([(⟨r13,r13,r13⟩:bm)]:List bm) >>= fun l16 =>
    some l16
  else
    cP 72 l14 ([(⟨r9,r10,r12⟩:bm)]:List bm) >>= fun l17 =>
    some l17
def lY (a:ai) (b:Int) (r1:ae) (r4:aS × Int × (List (List al)) × (List aH)) (r6:(List Bool) × Int × (List (List al))) (k2:Nat) (l12:List (List bm)):Option (List (List bm)) :=
  na (max 0 (b).toNat) >>= fun u2 =>
  cV (fun k3 (st:(List bm))=>p8 a r1 r4 r6 k2 k3 st) ((max 0 (b).toNat) - 0) 0 ([]:List bm) >>= fun l15 =>
  cP 24 l12 ([l15]:List (List bm)) >>= fun l18 =>
  some l18
def gK (a:ai) (b:Int):Option ((List (List bm)) × (List Bool) × Int × (List (List al)) × (List aH)) :=
  bp a >>= fun r1 =>
  bif b == (0:Int) then
    pi 24 r1.S.N r1.S.N (([]:List bm):List bm) >>= fun l1 =>
    pi 1 r1.S.N r1.S.N (false:Bool) >>= fun l2 =>
    some (l1,l2,a.ah,a.au,a.ak)
  else
    na (max 1 (r1.S.N+1).toNat) >>= fun u1 =>
    cV (fun k1 (st:(List aH) × (List (List (List (List Nat)))) × (List Bool) × (List (List (List Nat))))=>fQ a b r1 k1 st.1 st.2.1 st.2.2.1 st.2.2.2) ((max 1 (r1.S.N+1).toNat) - 1) 1 (a.ak,([]:List (List (List (List Nat)))),([]:List Bool),([]:List (List (List Nat)))) >>= fun (l7,l8,l9,l10) =>
    ug (⟨a.zw,a.ah,a.au,l7⟩:ai) l10 >>= fun r4 =>
    fv (⟨(⟨a.zw,r4.2.1,r4.2.2.1,r4.2.2.2⟩:ai),r1.S,r4.1⟩:aC) b >>= fun r5 =>
    iu (⟨(⟨a.zw,r5.2.1,r5.2.2,r4.2.2.2⟩:ai),r1.S,r4.1⟩:aC) r5.1 >>= fun r6 =>
    cV (fun k2 (st:(List (List bm)))=>lY a b r1 r4 r6 k2 st) ((max 1 (r1.S.N+1).toNat) - 1) 1 ([]:List (List bm)) >>= fun l13 =>
    some (l13,r6.1,r6.2.1,r6.2.2,r4.2.2.2)
def sL (a:Nat) (x1:List Nat) (k2:Nat):Option (Out Unit Bool) :=
  x1[k2]? >>= fun x2 =>
  bif decide (((x2:Nat):Int) ≥ ((a:Nat):Int)) then
    some (.fin false)
  else
    some (.go ())
def sK (a:Nat) (b:List (List Nat)) (c:Int) (k1:Nat):Option (Out Unit Bool) :=
  b[k1]? >>= fun x1 =>
  bif decide (((x1.length:Nat):Int) > c) then
    some (.fin false)
  else
    qQ (fun k2 (st:Unit)=>sL a x1 k2) (x1.length - 0) 0 () >>= fun r2=>lS r2 (fun x=>some (.fin x)) fun _ =>
    some (.go ())
def pZ (a:Nat) (b:List (List Nat)) (c:Int):Option Bool :=
  qQ (fun k1 (st:Unit)=>sK a b c k1) (b.length - 0) 0 () >>= fun r1=>lS r1 (fun x=>some x) fun _ =>
  some true
def tL (a:aD) (b:List (List Nat)) (k1:Nat):Option (Out Unit Bool) :=
  b[k1]? >>= fun x1 =>
  dO a.T (1:Int) >>= fun x2 =>
  bif ((x1.length:Nat):Int) != x2 then
    some (.fin false)
  else
    some (.go ())
def kn (a:aD) (b:List (List Nat)):Option Bool :=
  bif ((b.length:Nat):Int) != a.N then
    some false
  else
    na (max 0 (a.N).toNat) >>= fun u1 =>
    qQ (fun k1 (st:Unit)=>tL a b k1) ((max 0 (a.N).toNat) - 0) 0 () >>= fun r1=>lS r1 (fun x=>some x) fun _ =>
    dO a.T (1:Int) >>= fun x3 =>
    pZ a.P b x3 >>= fun r2 =>
    some r2
def tK (a:aD) (x1:List bm) (k2:Nat):Option (Out Unit Bool) :=
  x1[k2]? >>= fun x2 =>
  kn a x2.A >>= fun r3 =>
  bif !r3 then
    some (.fin false)
  else
    kn a x2.B >>= fun r4 =>
    bif !r4 then
      some (.fin false)
    else
      kn a x2.C >>= fun r5 =>
      bif !r5 then
        some (.fin false)
      else
        some (.go ())
def tJ (a:aD) (b:List (List bm)) (c:Int) (k1:Nat):Option (Out Unit Bool) :=
  b[k1]? >>= fun x1 =>
  bif ((x1.length:Nat):Int) != c then
    some (.fin false)
  else
    na (max 0 (c).toNat) >>= fun u2 =>
    qQ (fun k2 (st:Unit)=>tK a x1 k2) ((max 0 (c).toNat) - 0) 0 () >>= fun r2=>lS r2 (fun x=>some (.fin x)) fun _ =>
    some (.go ())
def qv (a:aD) (b:List (List bm)) (c:Int):Option Bool :=
  bif ((b.length:Nat):Int) != a.N then
    some false
  else
    na (max 0 (a.N).toNat) >>= fun u1 =>
    qQ (fun k1 (st:Unit)=>tJ a b c k1) ((max 0 (a.N).toNat) - 0) 0 () >>= fun r1=>lS r1 (fun x=>some x) fun _ =>
    some true
def pV (a:ai):Option Int :=
  some a.ah
def lV (a:List Int) (b:Int) (k1:Nat):Option (Out Unit Bool) :=
  a[k1]? >>= fun x1 =>
  bif x1 == b then
    some (.fin true)
  else
    some (.go ())
def jP (a:List Int) (b:Int):Option Bool :=
  qQ (fun k1 (st:Unit)=>lV a b k1) (a.length - 0) 0 () >>= fun r1=>lS r1 (fun x=>some x) fun _ =>
  some false
def nP (a:List Int) (k1:Nat) (l1:List Int):Option (List Int) :=
  jP a ((k1:Nat):Int) >>= fun r2 =>
  bif !r2 then
    cP 8 l1 ([((k1:Nat):Int)]:List Int) >>= fun l3 =>
    some l3
  else
    some l1
def kH (a:aD) (b:List Int):Option (List Int) :=
  na (max 1 (a.N+1).toNat) >>= fun u1 =>
  cV (fun k1 (st:(List Int))=>nP b k1 st) ((max 1 (a.N+1).toNat) - 1) 1 ([]:List Int) >>= fun l2 =>
  some l2
def wm (a:List aJ) (k1:Nat) (l1:List (Int × Bool)):Option (Out (List (Int × Bool)) Bool) :=
  a[k1]? >>= fun x2 =>
  bif (mU l1 ((x2.X:Nat):Int)).getD false then
    some (.fin false)
  else
    some (.go (se l1 ((x2.X:Nat):Int) true))
def uB (a:List aJ):Option Bool :=
  qQ (fun k1 (st:(List (Int × Bool)))=>wm a k1 st) (a.length - 0) 0 (se ([]:List (Int × Bool)) (0:Int) true) >>= fun r1=>lS r1 (fun x=>some x) fun l2 =>
  some true
def uz (a:Nat):Option Int :=
  oO a >>= fun r1 =>
  some r1
def nb (a:Nat):Option Bool :=
  some (((a:Nat):Int) != ((a:Nat):Int))
def sy (a:Nat) (b:Nat):Option Bool :=
  nb a >>= fun r1 =>
  bif r1 then
    nb b >>= fun r2 =>
    bif !r2 then
      some true
    else
      some (decide (((a:Nat):Int) < ((b:Nat):Int)))
  else
    some (decide (((a:Nat):Int) < ((b:Nat):Int)))
def eD (a:Int) (l4:List Nat) (x3:Int):Option (Out ((List Nat) × Int) (List Nat)) :=
  (
    bif decide (x3 > a) then
      gM l4 x3 >>= fun x5 =>
      i9 x3 (1:Int) >>= fun x6 =>
      gM l4 x6 >>= fun x7 =>
      sy x5 x7 >>= fun r3 =>
      some r3
    else
      some false
  ) >>= fun x4 =>
  bif x4 then
    i9 x3 (1:Int) >>= fun x8 =>
    gM l4 x8 >>= fun x9 =>
    gM l4 x3 >>= fun x10 =>
    some (l4.set x3.toNat x9) >>= fun l7 =>
    gM l7 x8 >>= fun x11 =>
    some (l7.set x8.toNat x10) >>= fun l8 =>
    some (.go (l8,x8))
  else
    some (.fin l4)
def eB (a:Int) (b:Int) (l1:List Nat) (x2:Int):Option (Out ((List Nat) × Int) (List Nat)) :=
  bif decide (x2 < b) then
    vj (fun (st:(List Nat) × Int)=>eD a st.1 st.2) big (l1,x2) >>= fun l6 =>
    dO x2 (1:Int) >>= fun x12 =>
    some (.go (l6,x12))
  else
    some (.fin l1)
def il (a:List Nat) (b:Int) (c:Int):Option (List Nat) :=
  dO b (1:Int) >>= fun x1 =>
  vj (fun (st:(List Nat) × Int)=>eB b c st.1 st.2) big (a,x1) >>= fun l3 =>
  some l3
def mR (a:List Nat) (b:Int) (c:Int):Option (Out Unit ((List Nat) ⊕ Unit)) :=
  i9 c b >>= fun x1 =>
  bif decide (x1≤(12:Int)) then
    il a b c >>= fun r2 =>
    some (.fin (.inl r2))
  else
    none
def jR (a:List Nat) (b:Int) (c:Int) (d:Int):Option (List Nat) :=
  vj (fun (st:Unit)=>mR a b c) big () >>= fun r1=>GU r1 (fun x=>some x) fun _ =>
  none
def kK (a:List Nat):Option (List Nat) :=
  some (uu ((a.length:Nat):Int)) >>= fun x1 =>
  uz x1 >>= fun r1 =>
  jR a ((0:Nat):Int) ((a.length:Nat):Int) r1 >>= fun r2 =>
  some r2
def mG (a:List Nat) (x1:Int):Option (Out Int Unit) :=
  bif decide (x1 < ((a.length:Nat):Int)) then
    gM a x1 >>= fun x2 =>
    i9 x1 (1:Int) >>= fun x3 =>
    gM a x3 >>= fun x4 =>
    bif ((x2:Nat):Int) == ((x4:Nat):Int) then
      none
    else
      dO x1 (1:Int) >>= fun x5 =>
      some (.go x5)
  else
    some (.fin ())
def jE (a:List Nat):Option (List Nat) :=
  bif decide (((a.length:Nat):Int) < (2:Int)) then
    some a
  else
    vj (fun (st:Int)=>mG a st) big ((1:Nat):Int) >>= fun _ =>
    some a
def pU (a:List Nat):Option Bool :=
  cx a >>= fun r1 =>
  kK r1 >>= fun r2 =>
  jE r2 >>= fun r3 =>
  some (((r3.length:Nat):Int) == ((a.length:Nat):Int))
def lC (a:Nat) (b:Nat) (c:List Nat) (d:Nat) (e:aJ):Option ((List Nat) × Nat) :=
  mc b a >>= fun r1 =>
  tF b c ([r1,1]:List Nat) >>= fun r2 =>
  md b e.X a >>= fun r3 =>
  dc b d r3 >>= fun r4 =>
  some (r2,r4)
def da (a:List Nat) (b:Int) (c:Nat) (d:aJ) (k1:Nat) (l1:List Nat) (x1:Nat):Option ((List Nat) × Nat) :=
  a[k1]? >>= fun x4 =>
  bif ((k1:Nat):Int) != b then
    lC x4 c l1 x1 d >>= fun r2 =>
    some (r2.1,r2.2)
  else
    some (l1,x1)
def fk (a:List Nat) (b:Int) (c:Nat) (d:List Nat) (e:Nat) (f:aJ):Option ((List Nat) × Nat) :=
  cV (fun k1 (st:(List Nat) × Nat)=>da a b c f k1 st.1 st.2) (a.length - 0) 0 (d,e) >>= fun (l2,x3) =>
  some (l2,x3)
def rr (a:Nat) (b:Nat) (c:Nat):Option Nat :=
  jT a c >>= fun r1 =>
  dc a b r1.1 >>= fun r2 =>
  some r2
def yr (a:Nat) (b:Nat) (c:List Nat) (k1:Nat) (l2:List Nat):Option (List Nat) :=
  c[k1]? >>= fun x2 =>
  dc a b x2 >>= fun r2 =>
  l2[k1]? >>= fun x3 =>
  some (l2.set k1 r2) >>= fun l4 =>
  some l4
def xR (a:Nat) (b:Nat) (c:List Nat):Option (List Nat) :=
  pi 8 ((c.length:Nat):Int) ((c.length:Nat):Int) (0:Nat) >>= fun l1 =>
  cV (fun k1 (st:(List Nat))=>yr a b c k1 st) (c.length - 0) 0 l1 >>= fun l3 =>
  iH l3 >>= fun r3 =>
  some r3
def Bq (a:Nat) (b:List Nat) (k1:Nat) (l1:List Nat):Option (List Nat) :=
  b[k1]? >>= fun x2 =>
  iL (⟨a,l1⟩:pB) ((k1:Nat):Int) x2 >>= fun r2 =>
  some r2
def Bs (a:Nat) (b:List Nat) (k2:Nat) (l3:List Nat):Option (List Nat) :=
  b[k2]? >>= fun x4 =>
  iL (⟨a,l3⟩:pB) ((k2:Nat):Int) x4 >>= fun r4 =>
  some r4
def Bp (a:Nat) (b:List Nat) (c:List Nat):Option (List Nat) :=
  cV (fun k1 (st:(List Nat))=>Bq a b k1 st) (b.length - 0) 0 ([]:List Nat) >>= fun l2 =>
  cV (fun k2 (st:(List Nat))=>Bs a c k2 st) (c.length - 0) 0 l2 >>= fun l4 =>
  iH l4 >>= fun r5 =>
  some r5
def qf (a:List aJ) (k1:Nat) (l1:List Nat):Option (List Nat) :=
  a[k1]? >>= fun x2 =>
  cP 8 l1 ([x2.X]:List Nat) >>= fun l3 =>
  some l3
def qg (a:Nat) (b:List aJ) (l2:List Nat) (k2:Nat) (l4:List Nat):Option (List Nat) :=
  b[k2]? >>= fun x4 =>
  fk l2 ((k2:Nat):Int) a ([1]:List Nat) 1 x4 >>= fun r4 =>
  rr a x4.Y r4.2 >>= fun r5 =>
  xR a r5 r4.1 >>= fun r6 =>
  Bp a l4 r6 >>= fun r7 =>
  some r7
def mA (a:Nat) (b:List aJ):Option ((List Nat) × Int) :=
  cV (fun k1 (st:(List Nat))=>qf b k1 st) (b.length - 0) 0 ([]:List Nat) >>= fun l2 =>
  pU l2 >>= fun r2 =>
  bif !r2 then
    some (([]:List Nat),((1:Nat):Int))
  else
    cV (fun k2 (st:(List Nat))=>qg a b l2 k2 st) (b.length - 0) 0 ([]:List Nat) >>= fun l5 =>
    iH l5 >>= fun r8 =>
    some (r8,((0:Nat):Int))
def rv (a:List Nat) (b:Int):Option Nat :=
  bif decide (b < (0:Int)) then
    some 0
  else
    bif decide (b ≥ ((a.length:Nat):Int)) then
      some 0
    else
      gM a b >>= fun x1 =>
      some x1
def p5 (a:Nat) (b:Int) (c:List aJ):Option (Nat × Int) :=
  (
    bif decide (b < (0:Int)) then
      some true
    else
      uB c >>= fun r1 =>
      bif !r1 then
        some true
      else
        some (decide (((c.length:Nat):Int)≤b))
  ) >>= fun x1 =>
  bif x1 then
    some (0,((1:Nat):Int))
  else
    mA a c >>= fun r2 =>
    bif r2.2 != (0:Int) then
      some (0,r2.2)
    else
      mg r2.1 >>= fun r3 =>
      bif decide (r3 > b) then
        some (0,((9:Nat):Int))
      else
        rv r2.1 ((0:Nat):Int) >>= fun r4 =>
        some (r4,((0:Nat):Int))
def sn (a:List (List Nat)) (r1:(List Int)) (k1:Nat) (l1:List aJ):Option (List aJ) :=
  r1[k1]? >>= fun x2 =>
  some (uu x2) >>= fun x3 =>
  i9 x2 (1:Int) >>= fun x4 =>
  gM a x4 >>= fun x5 =>
  x5[0]? >>= fun x6 =>
  cP 16 l1 ([(⟨x3,x6⟩:aJ)]:List aJ) >>= fun l3 =>
  some l3
def jb (a:ae) (b:List (List Nat)):Option (Nat × Int) :=
  kH a.S a.af >>= fun r1 =>
  cV (fun k1 (st:(List aJ))=>sn b r1 k1 st) (r1.length - 0) 0 ([]:List aJ) >>= fun l2 =>
  p5 a.S.P a.S.T l2 >>= fun r3 =>
  some (r3.1,r3.2)
def lT  : Option Bool :=
  pi 8 (9:Int) (9:Int) (0:Nat) >>= fun l1 =>
  nM (⟨(⟨31,((4:Nat):Int),((1:Nat):Int)⟩:aD),([]:List Int),([]:List aO),([([5,3,7,2,4,1,2,3,6]:List Nat),l1,l1,l1]:List (List Nat))⟩:ae) >>= fun r1 =>
  GV r1 (fun r2 =>
    some false)
  (fun r3 =>
    p9 (⟨31,((4:Nat):Int),((1:Nat):Int)⟩:aD) ((2:Nat):Int) >>= fun r4 =>
    bif r4 != (18:Int) then
      some false
    else
      gK r3 ((1:Nat):Int) >>= fun r5 =>
      (
        qv (⟨31,((4:Nat):Int),((1:Nat):Int)⟩:aD) r5.1 ((1:Nat):Int) >>= fun r6 =>
        bif !r6 then
          some true
        else
          bif ((r5.2.1.length:Nat):Int) != (4:Int) then
            some true
          else
            pV (⟨r3.zw,r5.2.2.1,r5.2.2.2.1,r5.2.2.2.2⟩:ai) >>= fun r7 =>
            bif r7 != (8:Int) then
              some true
            else
              fL (⟨r3.zw,r5.2.2.1,r5.2.2.2.1,r5.2.2.2.2⟩:ai) ((1:Nat):Int) >>= fun r8 =>
              r5.2.2.2.2[r8]? >>= fun x2 =>
              jg x2 >>= fun r9 =>
              some (r9 != (0:Int))
      ) >>= fun x1 =>
      bif x1 then
        some false
      else
        r5.1[0]? >>= fun x3 =>
        x3[0]? >>= fun x4 =>
        jb (⟨(⟨31,((4:Nat):Int),((1:Nat):Int)⟩:aD),([]:List Int),([]:List aO),([([5,3,7,2,4,1,2,3,6]:List Nat),l1,l1,l1]:List (List Nat))⟩:ae) x4.A >>= fun r10 =>
        jb (⟨(⟨31,((4:Nat):Int),((1:Nat):Int)⟩:aD),([]:List Int),([]:List aO),([([5,3,7,2,4,1,2,3,6]:List Nat),l1,l1,l1]:List (List Nat))⟩:ae) x4.B >>= fun r11 =>
        jb (⟨(⟨31,((4:Nat):Int),((1:Nat):Int)⟩:aD),([]:List Int),([]:List aO),([([5,3,7,2,4,1,2,3,6]:List Nat),l1,l1,l1]:List (List Nat))⟩:ae) x4.C >>= fun r12 =>
        bif ((r10.1:Nat):Int) == (5:Int) then
          bif ((r11.1:Nat):Int) == (7:Int) then
            bif ((r12.1:Nat):Int) == (4:Int) then
              bif r10.2 == (0:Int) then
                bif r11.2 == (0:Int) then
                  bif r12.2 == (0:Int) then
                    r5.2.1[0]? >>= fun x5 =>
                    bif !x5 then
                      r5.2.1[3]? >>= fun x6 =>
                      some (!x6)
                    else
                      some false
                  else
                    some false
                else
                  some false
              else
                some false
            else
              some false
          else
            some false
        else
          some false)
def mD  : Option (List Int) :=
  some ([((5:Nat):Int),((7:Nat):Int),((13:Nat):Int),((17:Nat):Int),((19:Nat):Int),((31:Nat):Int),((61:Nat):Int)]:List Int)
def fU (a:Nat) (r1:(List Int)) (k1:Nat):Option (Out Unit Int) :=
  r1[k1]? >>= fun x1 =>
  some (uu x1) >>= fun x2 =>
  Cw 1 ((x2:Nat):Int) >>= fun x3 =>
  some (yx x3 1) >>= fun x4 =>
  bif ((a:Nat):Int) == ((x4:Nat):Int) then
    some (.fin x1)
  else
    some (.go ())
def jY (a:Nat):Option Int :=
  mD >>= fun r1 =>
  qQ (fun k1 (st:Unit)=>fU a r1 k1) (r1.length - 0) 0 () >>= fun r2=>lS r2 (fun x=>some x) fun _ =>
  some ((0:Nat):Int)
def gS (a:Nat):Option Bool :=
  jY a >>= fun r1 =>
  some (decide (r1 > (0:Int)))
def ic (a:aD):Option Bool :=
  gS a.P >>= fun r1 =>
  bif r1 then
    bif decide (a.N ≥ (4:Int)) then
      bif decide (a.N≤(13:Int)) then
        some (uu a.N) >>= fun x1 =>
        bif decide (((x1:Nat):Int) < ((a.P:Nat):Int)) then
          bif decide (a.T ≥ (1:Int)) then
            bif decide (a.T < a.N) then
              jl (3:Int) a.T >>= fun x2 =>
              some (decide (x2 < a.N))
            else
              some false
          else
            some false
        else
          some false
      else
        some false
    else
      some false
  else
    some false
def fM (a:aD) (b:List Int) (k1:Nat):Option (Out Unit Bool) :=
  b[k1]? >>= fun x2 =>
  bif decide (x2 < (1:Int)) then
    some (.fin false)
  else
    bif decide (x2 > a.N) then
      some (.fin false)
    else
      bif decide (((k1:Nat):Int) > (0:Int)) then
        i9 ((k1:Nat):Int) (1:Int) >>= fun x3 =>
        gM b x3 >>= fun x4 =>
        bif decide (x2≤x4) then
          some (.fin false)
        else
          some (.go ())
      else
        some (.go ())
def fj (a:aD) (b:List Int):Option Bool :=
  (
    ic a >>= fun r1 =>
    bif !r1 then
      some true
    else
      some (decide (((b.length:Nat):Int) > a.T))
  ) >>= fun x1 =>
  bif x1 then
    some false
  else
    qQ (fun k1 (st:Unit)=>fM a b k1) (b.length - 0) 0 () >>= fun r2=>lS r2 (fun x=>some x) fun _ =>
    some true
def gT (a:aD) (b:aO):Option Bool :=
  bif decide (b.Round ≥ (0:Int)) then
    bif decide (b.At ≥ (0:Int)) then
      bif decide (b.bF ≥ (0:Int)) then
        bif decide (b.From ≥ (1:Int)) then
          bif decide (b.From≤a.N) then
            bif decide (b.To ≥ (0:Int)) then
              bif decide (b.To≤a.N) then
                bif decide (b.Kind ≥ (1:Int)) then
                  bif decide (b.Kind≤(4:Int)) then
                    bif decide (b.Of ≥ (0:Int)) then
                      bif decide (b.Of≤a.N) then
                        bif b.Kind != (3:Int) then
                          some true
                        else
                          some (decide (b.Of ≥ (1:Int)))
                      else
                        some false
                    else
                      some false
                  else
                    some false
                else
                  some false
              else
                some false
            else
              some false
          else
            some false
        else
          some false
      else
        some false
    else
      some false
  else
    some false
def jZ (a:Nat) (b:List Nat) (k1:Nat):Option (Out Unit Bool) :=
  b[k1]? >>= fun x1 =>
  bif decide (((x1:Nat):Int) ≥ ((a:Nat):Int)) then
    some (.fin false)
  else
    some (.go ())
def jH (a:Nat) (b:List Nat):Option Bool :=
  qQ (fun k1 (st:Unit)=>jZ a b k1) (b.length - 0) 0 () >>= fun r1=>lS r1 (fun x=>some x) fun _ =>
  some true
def fY (a:ae) (k1:Nat):Option (Out Unit Bool) :=
  a.aa[k1]? >>= fun x2 =>
  gT a.S x2 >>= fun r4 =>
  bif !r4 then
    some (.fin false)
  else
    some (.go ())
def fZ (a:ae) (k2:Nat):Option (Out Unit Bool) :=
  a.ay[k2]? >>= fun x3 =>
  jH a.S.P x3 >>= fun r6 =>
  bif !r6 then
    some (.fin false)
  else
    some (.go ())
def du (a:ae):Option Bool :=
  (
    ic a.S >>= fun r1 =>
    bif !r1 then
      some true
    else
      fj a.S a.af >>= fun r2 =>
      bif !r2 then
        some true
      else
        some (((a.ay.length:Nat):Int) != a.S.N)
  ) >>= fun x1 =>
  bif x1 then
    some false
  else
    qQ (fun k1 (st:Unit)=>fY a k1) (a.aa.length - 0) 0 () >>= fun r3=>lS r3 (fun x=>some x) fun _ =>
    qQ (fun k2 (st:Unit)=>fZ a k2) (a.ay.length - 0) 0 () >>= fun r5=>lS r5 (fun x=>some x) fun _ =>
    some true
def j6 (a:ae) (b:Int) (k1:Nat):Option (Out Unit Bool) :=
  a.ay[k1]? >>= fun x2 =>
  bif decide (((x2.length:Nat):Int) > b) then
    some (.fin false)
  else
    some (.go ())
def jI (a:ae) (b:Int) (c:Int) (d:Int):Option Bool :=
  (
    bif decide (a.S.N > b) then
      some true
    else
      bif decide (((a.aa.length:Nat):Int) > c) then
        some true
      else
        some (decide (((a.ay.length:Nat):Int) > b))
  ) >>= fun x1 =>
  bif x1 then
    some false
  else
    qQ (fun k1 (st:Unit)=>j6 a d k1) (a.ay.length - 0) 0 () >>= fun r1=>lS r1 (fun x=>some x) fun _ =>
    du a >>= fun r2 =>
    some r2
def kJ (a:aD) (b:Int):Option Int :=
  dO a.T (1:Int) >>= fun x1 =>
  jl (2:Int) x1 >>= fun x2 =>
  jl a.T a.T >>= fun x3 =>
  dO x2 x3 >>= fun x4 =>
  dO a.T (3:Int) >>= fun x5 =>
  jl x5 a.T >>= fun x6 =>
  jl x6 x1 >>= fun x7 =>
  wR x7 (2:Int) >>= fun x8 =>
  dO x4 x8 >>= fun x9 =>
  jl b x9 >>= fun x10 =>
  some x10
def kI (a:ae) (b:Int) (k1:Nat):Option (Out Unit Bool) :=
  a.ay[k1]? >>= fun x1 =>
  bif decide (((x1.length:Nat):Int) < b) then
    some (.fin false)
  else
    some (.go ())
def mE (a:ae) (b:Int):Option Bool :=
  qQ (fun k1 (st:Unit)=>kI a b k1) (a.ay.length - 0) 0 () >>= fun r1=>lS r1 (fun x=>some x) fun _ =>
  some true
def km (a:ae) (b:Nat) (c:Int) (d:Nat):Option Bool :=
  bif decide (((b:Nat):Int)≤((d:Nat):Int)) then
    jI a c ((8:Nat):Int) ((120:Nat):Int) >>= fun r1 =>
    bif r1 then
      some (JY ((b:Nat):Int)) >>= fun x1 =>
      kJ a.S x1 >>= fun r2 =>
      mE a r2 >>= fun r3 =>
      some r3
    else
      some false
  else
    some false
def jc (a:Nat) (x1:Nat) (x2:Nat) (x3:Nat):Option (Out (Nat × Nat × Nat) Nat) :=
  bif decide (((x2:Nat):Int) > (0:Int)) then
    yw x2 2 >>= fun x6 =>
    bif ((x6:Nat):Int) == (1:Int) then
      some (nD x3 x1) >>= fun x7 =>
      yw x7 a >>= fun x8 =>
      some (nD x1 x1) >>= fun x9 =>
      yw x9 a >>= fun x10 =>
      HO x2 2 >>= fun x11 =>
      some (.go (x10,x11,x8))
    else
      some (nD x1 x1) >>= fun x12 =>
      yw x12 a >>= fun x13 =>
      HO x2 2 >>= fun x14 =>
      some (.go (x13,x14,x3))
  else
    some (.fin x3)
def nj (a:Nat) (b:Nat) (c:Nat):Option Nat :=
  vj (fun (st:Nat × Nat × Nat)=>jc a st.1 st.2.1 st.2.2) big (b,c,0) >>= fun x5 =>
  some x5
def ni (a:Nat) (b:Nat) (c:Nat):Option Nat :=
  some (nD b c) >>= fun x1 =>
  yw x1 a >>= fun x2 =>
  some x2
def dE (a:ae) (r6:(List (List bm)) × (List Bool) × Int × (List (List al)) × (List aH)) (k1:Nat) (x2:Int):Option (Out Int Bool) :=
  (
    r6.2.1[k1]? >>= fun x7 =>
    bif x7 then
      dO ((k1:Nat):Int) (1:Int) >>= fun x8 =>
      jP a.af x8 >>= fun r8 =>
      some (!r8)
    else
      some false
  ) >>= fun x6 =>
  bif x6 then
    some (.fin false)
  else
    r6.2.1[k1]? >>= fun x9 =>
    bif !x9 then
      dO x2 (1:Int) >>= fun x10 =>
      some (.go x10)
    else
      some (.go x2)
def dW (a:ae) (b:Nat):Option Bool :=
  lT >>= fun r1 =>
  bif !r1 then
    some false
  else
    km a b ((7:Nat):Int) 2 >>= fun r2 =>
    bif !r2 then
      some true
    else
      nM a >>= fun r3 =>
      GV r3 (fun r4 =>
        some false)
      (fun r5 =>
        some (JY ((b:Nat):Int)) >>= fun x1 =>
        gK r5 x1 >>= fun r6 =>
        bif ((r6.2.1.length:Nat):Int) != a.S.N then
          some false
        else
          na (max 0 (a.S.N).toNat) >>= fun u1 =>
          qQ (fun k1 (st:Int)=>dE a r6 k1 st) ((max 0 (a.S.N).toNat) - 0) 0 ((0:Nat):Int) >>= fun r7=>lS r7 (fun x=>some x) fun x4 =>
          jl (2:Int) a.S.T >>= fun x11 =>
          dO x11 (1:Int) >>= fun x12 =>
          some (decide (x4 ≥ x12)))
def uq (x6:Int) (k1:Nat) (l2:List (List Nat)):Option (List (List Nat)) :=
  pi 8 x6 x6 (0:Nat) >>= fun l4 =>
  l2[k1]? >>= fun x8 =>
  some (l2.set k1 l4) >>= fun l5 =>
  some l5
def ut (a:List Nat) (x1:Int) (k2:Nat) (l12:List (List Nat)) (x19:Int) (x20:Int):Option (Out ((List (List Nat)) × Int × Int) ((List (List Nat)) × Int)) :=
  (
    bif decide (x20≤x1) then
      some (decide (((k2:Nat):Int) > (0:Int)))
    else
      some false
  ) >>= fun x23 =>
  bif x23 then
    l12[k2]? >>= fun x24 =>
    gM l12 x20 >>= fun x25 =>
    gM a x19 >>= fun x26 =>
    gM x24 x20 >>= fun x27 =>
    some (x24.set x20.toNat x26) >>= fun l15 =>
    some (l12.set k2 l15) >>= fun l16 =>
    x25[k2]? >>= fun x28 =>
    gM l16 x20 >>= fun x29 =>
    x29[k2]? >>= fun x30 =>
    some (x29.set k2 x26) >>= fun l17 =>
    some (l16.set x20.toNat l17) >>= fun l18 =>
    dO x19 (1:Int) >>= fun x31 =>
    dO x20 (1:Int) >>= fun x32 =>
    some (.go (l18,x31,x32))
  else
    some (.fin (l12,x19))
def us (a:List Nat) (b:List Nat) (x1:Int) (k2:Nat) (l6:List (List Nat)) (x9:Int):Option ((List (List Nat)) × Int) :=
  l6[0]? >>= fun x12 =>
  l6[k2]? >>= fun x13 =>
  a[k2]? >>= fun x14 =>
  x12[k2]? >>= fun x15 =>
  some (x12.set k2 x14) >>= fun l8 =>
  some (l6.set 0 l8) >>= fun l9 =>
  x13[0]? >>= fun x16 =>
  l9[k2]? >>= fun x17 =>
  x17[0]? >>= fun x18 =>
  some (x17.set 0 x14) >>= fun l10 =>
  some (l9.set k2 l10) >>= fun l11 =>
  vj (fun (st:(List (List Nat)) × Int × Int)=>ut b x1 k2 st.1 st.2.1 st.2.2) big (l11,x9,((k2:Nat):Int)) >>= fun (l14,x22) =>
  some (l14,x22)
def jo (a:List Nat) (b:List Nat):Option ((List (List Nat)) × Int) :=
  i9 ((a.length:Nat):Int) (1:Int) >>= fun x1 =>
  (
    bif decide (x1 < (0:Int)) then
      some true
    else
      dO x1 (1:Int) >>= fun x3 =>
      jl x1 x3 >>= fun x4 =>
      wR x4 (2:Int) >>= fun x5 =>
      some (((b.length:Nat):Int) != x5)
  ) >>= fun x2 =>
  bif x2 then
    some (([]:List (List Nat)),((1:Nat):Int))
  else
    dO x1 (1:Int) >>= fun x6 =>
    pi 24 x6 x6 ([]:List Nat) >>= fun l1 =>
    na (max 0 (x1+1).toNat) >>= fun u1 =>
    cV (fun k1 (st:(List (List Nat)))=>uq x6 k1 st) ((max 0 (x1+1).toNat) - 0) 0 l1 >>= fun l3 =>
    cV (fun k2 (st:(List (List Nat)) × Int)=>us a b x1 k2 st.1 st.2) ((max 0 (x1+1).toNat) - 0) 0 (l3,((0:Nat):Int)) >>= fun (l7,x11) =>
    some (l7,((0:Nat):Int))
def ip (a:Nat) (b:List Nat) (c:Nat) (x2:Nat) (x3:Int):Option (Out (Nat × Int) Nat) :=
  bif decide (x3 ≥ (0:Int)) then
    nj a x2 c >>= fun r2 =>
    gM b x3 >>= fun x6 =>
    ni a r2 x6 >>= fun r3 =>
    i9 x3 (1:Int) >>= fun x7 =>
    some (.go (r3,x7))
  else
    some (.fin x2)
def lU (a:Nat) (b:List Nat) (c:Nat):Option Nat :=
  i9 ((b.length:Nat):Int) (1:Int) >>= fun x1 =>
  vj (fun (st:Nat × Int)=>ip a b c st.1 st.2) big (0,x1) >>= fun x5 =>
  some x5
def lm (a:List (List Nat)) (k1:Nat) (k2:Nat) (l3:List Nat):Option (List Nat) :=
  a[k2]? >>= fun x3 =>
  x3[k1]? >>= fun x4 =>
  cP 8 l3 ([x4]:List Nat) >>= fun l5 =>
  some l5
def jd (a:Nat) (b:List (List Nat)) (c:Nat) (k1:Nat) (l1:List Nat):Option (List Nat) :=
  cV (fun k2 (st:(List Nat))=>lm b k1 k2 st) (b.length - 0) 0 ([]:List Nat) >>= fun l4 =>
  lU a l4 c >>= fun r3 =>
  cP 8 l1 ([r3]:List Nat) >>= fun l6 =>
  some l6
def k9 (a:Nat) (b:List (List Nat)) (c:Nat):Option (List Nat) :=
  cV (fun k1 (st:(List Nat))=>jd a b c k1 st) (b.length - 0) 0 ([]:List Nat) >>= fun l2 =>
  some l2
end Pu
