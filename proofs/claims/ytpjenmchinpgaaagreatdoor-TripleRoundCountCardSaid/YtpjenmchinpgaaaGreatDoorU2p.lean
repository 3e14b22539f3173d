/- Plain functions: what the Go functions compute, over lists and numbers, in Option (none: a run that is not followed). No Go in it. Printed by a program of this claim. -/
import Derived.Test.YtpjenmchinpgaaaGreatDoorWd
set_option linter.unusedVariables false
namespace Pu
open Gw
structure aF where
 P:Nat
 N:Int
 T:Int
structure aD where
 Round:Int
 From:Int
 To:Int
 At:Int
 Kind:Int
 K:Nat
 Of:Int
 bG:Int
structure ae where
 S:aF
 af:List Int
 aa:List aD
 ay:List (List Nat)
structure am where
 Round:Int
 From:Int
 NN:List Nat
structure aL where
 i6:List Nat
 zat:Int
structure ai where
 zw:ae
 ah:Int
 av:List (List am)
 ak:List aL
structure bo where
 A:List (List Nat)
 B:List (List Nat)
 C:List (List Nat)
structure aT where
 Rows:List (List (List (List Nat)))
 be:List Bool
structure aC where
 zn:ai
 zs:aF
 zd:aT
structure pF where
 zp:Nat
 zf:List Nat
structure aU where
 S:List (List (List (List Nat)))
 Rows:List (List (List (List Nat)))
 aO:List (List (List Nat))
structure ao where
 zn:ai
 zs:aF
 zq:List (List (List Nat))
 zd:aU
structure ax where
 zn:ai
 zp:Nat
 zd:aU
 bg:List (List Bool)
 ca:List (List Bool)
 dA:List (List (List (List Nat)))
structure cg where
 e0:Int
 e1:Int
structure n2 where
 zl:List Nat
structure bb where
 zby:Int
 zdealer:Int
 zm:Int
structure aH where
 X:Nat
 Y:Nat
structure mi where
 zp:Nat
 zm:List (List Nat)
 zpivot:List Int
 zdet:Nat
def vI(a:Nat)(k1:Nat):Option (Out Unit Int) :=
 ([5,7,13,17,19,31,61]:List Int)[k1]? >>= λx1 =>
 C1 1 x1 >>= λx2 =>
 some (yY x2 1) >>= λx3 =>
 bif ((a:Nat):Int)==((x3:Nat):Int) then
  some (.fin x1)
 else
  some (.go ())
def te(a:Nat):Option Int :=
 nN 7 >>= λu1 =>
 qg (λk1 (st:Unit)=>vI a k1) (7-0) 0 () >>= λr1=>ma r1 (λx=>some x) λ_ =>
 some ((0:Nat):Int)
def oV(a:Nat):Option Bool :=
 te a >>= λr1 =>
 some (r1 != (0:Int))
def po(a:aF):Option Bool :=
 oV a.P >>= λr1 =>
 bif r1 then
  bif decide (a.N≥(4:Int)) then
   bif decide (a.N≤(13:Int)) then
    some (sE a.N) >>= λx1 =>
    bif decide (((x1:Nat):Int)<((a.P:Nat):Int)) then
     bif decide (a.T≥(1:Int)) then
      bif decide (a.T<a.N) then
       jX (3:Int) a.T >>= λx2 =>
       some (decide (x2<a.N))
      else
       some false
     else
      some false
    else
     some false
   else
    some false
  else
   some false
 else
  some false
def jo(a:aF)(b:List Int)(k1:Nat):Option (Out Unit Bool) :=
 b[k1]? >>= λx2 =>
 bif decide (x2<(1:Int)) then
  some (.fin false)
 else
  bif decide (x2>a.N) then
   some (.fin false)
  else
   bif decide (((k1:Nat):Int)>(0:Int)) then
    jB ((k1:Nat):Int) (1:Int) >>= λx3 =>
    gY b x3 >>= λx4 =>
    bif decide (x4≥x2) then
     some (.fin false)
    else
     some (.go ())
   else
    some (.go ())
def iM(a:aF)(b:List Int):Option Bool :=
 (
  po a >>= λr1 =>
  bif !r1 then
   some true
  else
   some (decide (((b.length:Nat):Int)>a.T))
 ) >>= λx1 =>
 bif x1 then
  some false
 else
  qg (λk1 (st:Unit)=>jo a b k1) (b.length-0) 0 () >>= λr2=>ma r2 (λx=>some x) λ_ =>
  some true
def rZ(a:aF)(b:aD):Option Bool :=
 (
  bif b.Kind==(3:Int) then
   some ((1:Nat):Int)
  else
   some ((0:Nat):Int)
 ) >>= λx1 =>
 bif decide (b.Round≥(0:Int)) then
  bif decide (b.At≥(0:Int)) then
   bif decide (b.bG≥(0:Int)) then
    bif decide (b.From≥(1:Int)) then
     bif decide (b.From≤a.N) then
      bif decide (b.To≥(0:Int)) then
       bif decide (b.To≤a.N) then
        bif decide (b.Kind≥(1:Int)) then
         bif decide (b.Kind≤(4:Int)) then
          bif decide (b.Of≥x1) then
           some (decide (b.Of≤a.N))
          else
           some false
         else
          some false
        else
         some false
       else
        some false
      else
       some false
     else
      some false
    else
     some false
   else
    some false
  else
   some false
 else
  some false
def kf(a:aD)(b:ae):Option Bool :=
 rZ b.S a >>= λr1 =>
 some (!r1)
def bQ(a:List aD)(b:ae)(k1:Nat):Option (Out Unit Int) :=
 a[k1]? >>= λx1 =>
 kf x1 b >>= λr2 =>
 bif r2 then
  some (.fin ((k1:Nat):Int))
 else
  some (.go ())
def bW(a:List aD)(b:ae):Option Int :=
 qg (λk1 (st:Unit)=>bQ a b k1) (a.length-0) 0 () >>= λr1=>ma r1 (λx=>some x) λ_ =>
 some (-1)
def br(a:List aD)(b:ae):Option Bool :=
 bW a b >>= λr1 =>
 some (decide (r1≥(0:Int)))
def jp(a:Nat)(b:ae):Option Bool :=
 some (decide (((a:Nat):Int)≥((b.S.P:Nat):Int)))
def cy(a:List Nat)(b:ae)(k1:Nat):Option (Out Unit Int) :=
 a[k1]? >>= λx1 =>
 jp x1 b >>= λr2 =>
 bif r2 then
  some (.fin ((k1:Nat):Int))
 else
  some (.go ())
def cI(a:List Nat)(b:ae):Option Int :=
 qg (λk1 (st:Unit)=>cy a b k1) (a.length-0) 0 () >>= λr1=>ma r1 (λx=>some x) λ_ =>
 some (-1)
def bL(a:List Nat)(b:ae):Option Bool :=
 cI a b >>= λr1 =>
 some (decide (r1≥(0:Int)))
def kg(a:List Nat)(b:ae):Option Bool :=
 bL a b >>= λr1 =>
 some r1
def cx(a:List (List Nat))(b:ae)(k1:Nat):Option (Out Unit Int) :=
 a[k1]? >>= λx1 =>
 kg x1 b >>= λr2 =>
 bif r2 then
  some (.fin ((k1:Nat):Int))
 else
  some (.go ())
def cH(a:List (List Nat))(b:ae):Option Int :=
 qg (λk1 (st:Unit)=>cx a b k1) (a.length-0) 0 () >>= λr1=>ma r1 (λx=>some x) λ_ =>
 some (-1)
def bK(a:List (List Nat))(b:ae):Option Bool :=
 cH a b >>= λr1 =>
 some (decide (r1≥(0:Int)))
def lg(a:ae):Option Bool :=
 iM a.S a.af >>= λr1 =>
 bif !r1 then
  some false
 else
  bif ((a.ay.length:Nat):Int) != a.S.N then
   some false
  else
   br a.aa a >>= λr2 =>
   bif r2 then
    some false
   else
    bK a.ay a >>= λr3 =>
    some (!r3)
def yK(a:List Nat):Option aL :=
 some (⟨a,((0:Nat):Int)⟩:aL)
def tt(a:ae)(k1:Nat)(l2:List aL):Option (List aL) :=
 a.ay[k1]? >>= λx2 =>
 yK x2 >>= λr3 =>
 cU 8 l2 ([r3]:List aL) >>= λl4 =>
 some l4
def k9(a:ae):Option (Unit ⊕ ai) :=
 lg a >>= λr1 =>
 bif !r1 then
  some (.inl ())
 else
  o9 24 a.S.N a.S.N ([]:List am) >>= λl1 =>
  cZ (λk1 (st:(List aL))=>tt a k1 st) (a.ay.length-0) 0 ([]:List aL) >>= λl3 =>
  some (.inr (⟨a,((0:Nat):Int),l1,l3⟩:ai))
def qc(a:aF)(b:Int):Option Int :=
 ee a.T (1:Int) >>= λx1 =>
 jX (2:Int) x1 >>= λx2 =>
 jX a.T a.T >>= λx3 =>
 ee x2 x3 >>= λx4 =>
 ee a.T (3:Int) >>= λx5 =>
 jX x5 a.T >>= λx6 =>
 jX x6 x1 >>= λx7 =>
 xz x7 (2:Int) >>= λx8 =>
 ee x4 x8 >>= λx9 =>
 jX b x9 >>= λx10 =>
 some x10
def bp(a:ai):Option ae :=
 some a.zw
def fW(a:ai)(b:Int):Option Nat :=
 jB b (1:Int) >>= λx1 =>
 gY a.ak x1 >>= λx2 =>
 some x1.toNat
def jG(a:aL):Option Int :=
 jB ((a.i6.length:Nat):Int) a.zat >>= λx1 =>
 some x1
def lj(a:aL)(b:Int):Option ((List Nat)×Int×Int) :=
 (
  bif decide (b<(0:Int)) then
   some true
  else
   jG a >>= λr1 =>
   some (decide (b>r1))
 ) >>= λx1 =>
 bif x1 then
  some (([]:List Nat),((10:Nat):Int),a.zat)
 else
  ee a.zat b >>= λx2 =>
  oU a.i6 a.zat x2 >>= λl1 =>
  some (l1,((0:Nat):Int),x2)
def mn(a:Nat)(b:Nat):Option (Nat×Nat) :=
 some (xp a 4294967295) >>= λx1 =>
 vo a (32:Int) >>= λx2 =>
 some (xp b 4294967295) >>= λx3 =>
 vo b (32:Int) >>= λx4 =>
 some (xD x1 x3) >>= λx5 =>
 some (xD x2 x3) >>= λx6 =>
 vo x5 (32:Int) >>= λx7 =>
 some (og x6 x7) >>= λx8 =>
 some (xp x8 4294967295) >>= λx9 =>
 vo x8 (32:Int) >>= λx10 =>
 some (xD x1 x4) >>= λx11 =>
 some (og x9 x11) >>= λx12 =>
 some (xD x2 x4) >>= λx13 =>
 some (og x13 x10) >>= λx14 =>
 vo x12 (32:Int) >>= λx15 =>
 some (og x14 x15) >>= λx16 =>
 some (xD a b) >>= λx17 =>
 some (x16,x17)
def ml(a:Nat):Option Int :=
 bif a==31 then
  some ((5:Nat):Int)
 else
  bif a==127 then
   some ((7:Nat):Int)
  else
   bif a==8191 then
    some ((13:Nat):Int)
   else
    bif a==131071 then
     some ((17:Nat):Int)
    else
     bif a==524287 then
      some ((19:Nat):Int)
     else
      bif a==2147483647 then
       some ((31:Nat):Int)
      else
       bif a==2305843009213693951 then
        some ((61:Nat):Int)
       else
        bif a==1 then
         some ((1:Nat):Int)
        else
         bif a==2 then
          some ((2:Nat):Int)
         else
          bif a==3 then
           some ((2:Nat):Int)
          else
           bif a==4 then
            some ((3:Nat):Int)
           else
            bif a==5 then
             some ((3:Nat):Int)
            else
             bif a==6 then
              some ((3:Nat):Int)
             else
              bif a==7 then
               some ((3:Nat):Int)
              else
               none
def tf(a:Nat):Option Nat :=
 ml a >>= λr1 =>
 some (sE r1) >>= λx1 =>
 some x1
def ir(a:Nat)(r1:Nat)(x1:Nat)(x2:Nat):Option (Out (Nat×Nat) Nat) :=
 (
  bif ((x1:Nat):Int) != (0:Int) then
   some true
  else
   some (decide (((x2:Nat):Int)>((a:Nat):Int)))
 ) >>= λx5 =>
 bif x5 then
  some (xp x2 a) >>= λx6 =>
  vo x2 ((r1:Nat):Int) >>= λx7 =>
  some (yY 64 r1) >>= λx8 =>
  C1 x1 ((x8:Nat):Int) >>= λx9 =>
  some (Od x7 x9) >>= λx10 =>
  vo x1 ((r1:Nat):Int) >>= λx11 =>
  some (og x10 x6) >>= λx12 =>
  some (Iu x10 x6) >>= λx13 =>
  some (og x11 x13) >>= λx14 =>
  some (.go (x14,x12))
 else
  some (.fin x2)
def nP(a:Nat)(b:Nat)(c:Nat):Option Nat :=
 tf a >>= λr1 =>
 vM (λ(st:Nat×Nat)=>ir a r1 st.1 st.2) big (b,c) >>= λx4 =>
 bif ((x4:Nat):Int)==((a:Nat):Int) then
  some 0
 else
  some x4
def dj(a:Nat)(b:Nat)(c:Nat):Option Nat :=
 mn b c >>= λr1 =>
 nP a r1.1 r1.2 >>= λr2 =>
 some r2
def lz(a:Nat)(b:Nat)(c:Nat):Option Nat :=
 some (og b c) >>= λx1 =>
 nP a 0 x1 >>= λr1 =>
 some r1
def oZ(a:Int)(l1:List Nat):Option (Out (List Nat) (List Nat)) :=
 bif decide (((l1.length:Nat):Int)≤a) then
  cU 8 l1 ([0]:List Nat) >>= λl4 =>
  some (.go l4)
 else
  some (.fin l1)
def gt(a:pF)(b:Int)(c:Nat):Option (List Nat) :=
 vM (λ(st:(List Nat))=>oZ b st) big a.zf >>= λl3 =>
 gY l3 b >>= λx1 =>
 lz a.zp x1 c >>= λr2 =>
 some (l3.set b.toNat r2) >>= λl5 =>
 some l5
def p5(a:List Nat)(x2:Int):Option (Out Int (Int ⊕ Unit)) :=
 bif decide (x2≥(0:Int)) then
  gY a x2 >>= λx3 =>
  bif ((x3:Nat):Int) != (0:Int) then
   some (.fin (.inl x2))
  else
   jB x2 (1:Int) >>= λx4 =>
   some (.go x4)
 else
  some (.fin (.inr ()))
def mO(a:List Nat):Option Int :=
 jB ((a.length:Nat):Int) (1:Int) >>= λx1 =>
 vM (λ(st:Int)=>p5 a st) big x1 >>= λr1=>HI r1 (λx=>some x) λ_ =>
 some (-1)
def i9(a:List Nat):Option (List Nat) :=
 mO a >>= λr1 =>
 ee r1 (1:Int) >>= λx1 =>
 oU a (0:Int) x1 >>= λl1 =>
 cU 8 ([]:List Nat) l1 >>= λl2 =>
 some l2
def tC(a:Nat)(b:List Nat)(k1:Nat)(x2:Nat)(k2:Nat)(l3:List Nat):Option (List Nat) :=
 b[k2]? >>= λx4 =>
 ee ((k1:Nat):Int) ((k2:Nat):Int) >>= λx5 =>
 dj a x2 x4 >>= λr3 =>
 gt (⟨a,l3⟩:pF) x5 r3 >>= λr4 =>
 some r4
def tB(a:Nat)(b:List Nat)(c:List Nat)(k1:Nat)(l1:List Nat):Option (List Nat) :=
 b[k1]? >>= λx2 =>
 cZ (λk2 (st:(List Nat))=>tC a c k1 x2 k2 st) (c.length-0) 0 l1 >>= λl4 =>
 some l4
def tA(a:Nat)(b:List Nat)(c:List Nat):Option (List Nat) :=
 cZ (λk1 (st:(List Nat))=>tB a b c k1 st) (b.length-0) 0 ([]:List Nat) >>= λl2 =>
 i9 l2 >>= λr5 =>
 some r5
def nm(a:Int):Option Int :=
 some a
def mL(a:Nat)(b:Nat):Option Nat :=
 bif ((b:Nat):Int)==(0:Int) then
  some 0
 else
  some (yY a b) >>= λx1 =>
  some x1
def mM(a:Nat)(b:Nat)(c:Nat):Option Nat :=
 mL a c >>= λr1 =>
 lz a b r1 >>= λr2 =>
 some r2
def kB(a:Nat)(k1:Int)(l9:List Nat)(k2:Nat)(l10:List Nat):Option (List Nat) :=
 l9[k2]? >>= λx11 =>
 ee k1 ((k2:Nat):Int) >>= λx12 =>
 gY l10 x12 >>= λx13 =>
 mM a x13 x11 >>= λr4 =>
 some (l10.set x12.toNat r4) >>= λl12 =>
 some l12
def dO(a:Nat)(b:Int)(c:List Nat)(k1:Int)(l3:List Nat)(l4:List (List Nat)):Option ((List Nat)×(List (List Nat))) :=
 ee b (1:Int) >>= λx3 =>
 o9 8 x3 x3 (0:Nat) >>= λl7 =>
 jB k1 (1:Int) >>= λx4 =>
 jX x4 b >>= λx5 =>
 jX k1 b >>= λx6 =>
 oU c x5 x6 >>= λl8 =>
 ee k1 b >>= λx7 =>
 gY l3 x7 >>= λx8 =>
 gY (jd l7 l8) b >>= λx9 =>
 some ((jd l7 l8).set b.toNat x8) >>= λl9 =>
 cZ (λk2 (st:(List Nat))=>kB a k1 l9 k2 st) (l9.length-0) 0 l3 >>= λl11 =>
 gY l4 x4 >>= λx14 =>
 some (l4.set x4.toNat l9) >>= λl13 =>
 some (l11,l13)
def fY(a:Nat)(b:Int)(c:List Nat)(d:List Nat)(e:List Nat):Option ((List (List Nat))×(List Nat)) :=
 jX (2:Int) b >>= λx1 =>
 ee x1 (1:Int) >>= λx2 =>
 o9 8 x2 x2 (0:Nat) >>= λl1 =>
 tA a c d >>= λr1 =>
 o9 24 b b (([]:List Nat):List Nat) >>= λl2 =>
 nm b >>= λr2 =>
 NV (λ(k1:Int) (st:(List Nat)×(List (List Nat)))=>dO a b e k1 st.1 st.2) (r2:Int) (jd l1 r1,l2) >>= λ(l5,l6) =>
 ee b (1:Int) >>= λx15 =>
 oU l5 (0:Int) x15 >>= λl14 =>
 some (l6,l14)
def ff(a:List (List (List Nat)))(k1:Nat)(l1:List (List Nat)):Option (List (List Nat)) :=
 a[k1]? >>= λx2 =>
 cU 24 l1 x2 >>= λl3 =>
 some l3
def si(a:List (List (List Nat))):Option (List (List Nat)) :=
 cZ (λk1 (st:(List (List Nat)))=>ff a k1 st) (a.length-0) 0 ([]:List (List Nat)) >>= λl2 =>
 some l2
def fq(a:aC)(b:Int)(k1:Nat)(l1:List aL)(l2:List (List Nat)):Option ((List aL)×(List (List Nat))) :=
 fW (⟨a.zn.zw,a.zn.ah,a.zn.av,l1⟩:ai) b >>= λr2 =>
 ee a.zs.T (1:Int) >>= λx2 =>
 jX (2:Int) x2 >>= λx3 =>
 jX a.zs.T a.zs.T >>= λx4 =>
 ee x3 x4 >>= λx5 =>
 l1[r2]? >>= λx6 =>
 lj x6 x5 >>= λr3 =>
 some (l1.set r2 (⟨x6.i6,r3.2.2⟩:aL)) >>= λl5 =>
 oU r3.1 (0:Int) x2 >>= λl6 =>
 jX (2:Int) a.zs.T >>= λx7 =>
 ee x7 (2:Int) >>= λx8 =>
 oU r3.1 x2 x8 >>= λl7 =>
 oU r3.1 x8 ((r3.1.length:Nat):Int) >>= λl8 =>
 fY a.zs.P a.zs.T l6 l7 l8 >>= λr4 =>
 si ([([l6,l7]:List (List Nat)),r4.1,([r4.2]:List (List Nat))]:List (List (List Nat))) >>= λr5 =>
 cU 24 l2 r5 >>= λl9 =>
 some (l5,l9)
def jg(a:aC)(b:Int)(c:Int):Option ((List (List Nat))×(List aL)) :=
 nN (max 0 (c).toNat) >>= λu1 =>
 cZ (λk1 (st:(List aL)×(List (List Nat)))=>fq a b k1 st.1 st.2) ((max 0 (c).toNat)-0) 0 (a.zn.ak,([]:List (List Nat))) >>= λ(l3,l4) =>
 some (l4,l3)
def wo(a:List Nat)(k1:Nat)(l2:List (List Nat)):Option (List (List Nat)) :=
 o9 8 ((a.length:Nat):Int) ((a.length:Nat):Int) (0:Nat) >>= λl4 =>
 l2[k1]? >>= λx6 =>
 some (l2.set k1 l4) >>= λl5 =>
 some l5
def wq(a:List Nat)(k2:Nat)(l6:List (List Nat)):Option (List (List Nat)) :=
 a[k2]? >>= λx8 =>
 l6[0]? >>= λx9 =>
 l6[k2]? >>= λx10 =>
 x9[k2]? >>= λx11 =>
 some (x9.set k2 x8) >>= λl8 =>
 some (l6.set 0 l8) >>= λl9 =>
 x10[0]? >>= λx12 =>
 l9[k2]? >>= λx13 =>
 x13[0]? >>= λx14 =>
 some (x13.set 0 x8) >>= λl10 =>
 some (l9.set k2 l10) >>= λl11 =>
 some l11
def nJ(a:List Nat)(k3:Nat)(l16:List Nat)(l17:List (List Nat))(x16:Int):Option (Out ((List Nat)×(List (List Nat))×Int) ((List Nat)×(List (List Nat)))) :=
 bif decide (x16<((a.length:Nat):Int)) then
  l17[k3]? >>= λx17 =>
  gY l17 x16 >>= λx18 =>
  l16[0]? >>= λx19 =>
  gY x17 x16 >>= λx20 =>
  some (x17.set x16.toNat x19) >>= λl22 =>
  some (l17.set k3 l22) >>= λl23 =>
  x18[k3]? >>= λx21 =>
  gY l23 x16 >>= λx22 =>
  x22[k3]? >>= λx23 =>
  some (x22.set k3 x19) >>= λl24 =>
  some (l23.set x16.toNat l24) >>= λl25 =>
  oU l16 (1:Int) ((l16.length:Nat):Int) >>= λl26 =>
  ee x16 (1:Int) >>= λx24 =>
  some (.go (l26,l25,x24))
 else
  some (.fin (l16,l17))
def nI(a:List Nat)(k3:Nat)(l12:List Nat)(l13:List (List Nat)):Option ((List Nat)×(List (List Nat))) :=
 vM (λ(st:(List Nat)×(List (List Nat))×Int)=>nJ a k3 st.1 st.2.1 st.2.2) big (l12,l13,((k3:Nat):Int)) >>= λ(l20,l21) =>
 some (l20,l21)
def lY(a:List Nat)(b:List Nat):Option ((List (List Nat))×Int) :=
 (
  bif ((a.length:Nat):Int)==(0:Int) then
   some true
  else
   jB ((a.length:Nat):Int) (1:Int) >>= λx2 =>
   jX ((a.length:Nat):Int) x2 >>= λx3 =>
   xz x3 (2:Int) >>= λx4 =>
   some (((b.length:Nat):Int) != x4)
 ) >>= λx1 =>
 bif x1 then
  some (([]:List (List Nat)),((1:Nat):Int))
 else
  o9 24 ((a.length:Nat):Int) ((a.length:Nat):Int) ([]:List Nat) >>= λl1 =>
  cZ (λk1 (st:(List (List Nat)))=>wo a k1 st) (l1.length-0) 0 l1 >>= λl3 =>
  cZ (λk2 (st:(List (List Nat)))=>wq a k2 st) (a.length-0) 0 l3 >>= λl7 =>
  nN (max 1 (((a.length:Nat):Int)).toNat) >>= λu1 =>
  cZ (λk3 (st:(List Nat)×(List (List Nat)))=>nI a k3 st.1 st.2) ((max 1 (((a.length:Nat):Int)).toNat)-1) 1 (b,l7) >>= λ(l14,l15) =>
  some (l15,((0:Nat):Int))
def eK(a:Int)(b:ao)(x1:List (List Nat))(k1:Nat)(l1:List aL)(l2:List (List (List (List Nat)))):Option ((List aL)×(List (List (List (List Nat))))) :=
 x1[k1]? >>= λx3 =>
 ee a (1:Int) >>= λx4 =>
 fW (⟨b.zn.zw,b.zn.ah,b.zn.av,l1⟩:ai) x4 >>= λr2 =>
 ee b.zs.T (1:Int) >>= λx5 =>
 jX b.zs.T x5 >>= λx6 =>
 xz x6 (2:Int) >>= λx7 =>
 l1[r2]? >>= λx8 =>
 lj x8 x7 >>= λr3 =>
 some (l1.set r2 (⟨x8.i6,r3.2.2⟩:aL)) >>= λl5 =>
 lY x3 r3.1 >>= λr4 =>
 gY l2 a >>= λx9 =>
 cU 24 x9 ([r4.1]:List (List (List Nat))) >>= λl6 =>
 some (l2.set a.toNat l6) >>= λl7 =>
 some (l5,l7)
def io(a:Int)(b:ao):Option ((List aL)×aU) :=
 gY b.zq a >>= λx1 =>
 cZ (λk1 (st:(List aL)×(List (List (List (List Nat)))))=>eK a b x1 k1 st.1 st.2) (x1.length-0) 0 (b.zn.ak,b.zd.S) >>= λ(l3,l4) =>
 some (l3,(⟨l4,b.zd.Rows,b.zd.aO⟩:aU))
def bT(a:ao)(k1:Nat)(l1:List aL)(l2:List (List (List (List Nat))))(l3:List (List (List (List Nat))))(l4:List (List (List Nat))):Option ((List aL)×(List (List (List (List Nat))))×(List (List (List (List Nat))))×(List (List (List Nat)))) :=
 io ((k1:Nat):Int) (⟨(⟨a.zn.zw,a.zn.ah,a.zn.av,l1⟩:ai),a.zs,a.zq,(⟨l2,l3,l4⟩:aU)⟩:ao) >>= λr2 =>
 some (r2.1,r2.2.S,r2.2.Rows,r2.2.aO)
def dC(a:ao):Option ((List aL)×aU) :=
 nN (max 0 (a.zs.N).toNat) >>= λu1 =>
 cZ (λk1 (st:(List aL)×(List (List (List (List Nat))))×(List (List (List (List Nat))))×(List (List (List Nat))))=>bT a k1 st.1 st.2.1 st.2.2.1 st.2.2.2) ((max 0 (a.zs.N).toNat)-0) 0 (a.zn.ak,a.zd.S,a.zd.Rows,a.zd.aO) >>= λ(l5,l6,l7,l8) =>
 some (l5,(⟨l6,l7,l8⟩:aU))
def ji(a:ao):Option ((List aL)×aU) :=
 dC a >>= λr1 =>
 some (r1.1,r1.2)
def nK(a:Nat)(x1:Nat)(x4:List Nat)(k2:Nat)(l4:List Nat):Option (List Nat) :=
 x4[k2]? >>= λx6 =>
 l4[k2]? >>= λx7 =>
 dj a x6 x1 >>= λr3 =>
 lz a x7 r3 >>= λr4 =>
 some (l4.set k2 r4) >>= λl6 =>
 some l6
def jI(a:Nat)(b:List (List Nat))(c:Nat)(k1:Nat)(l2:List Nat)(x1:Nat):Option ((List Nat)×Nat) :=
 b[k1]? >>= λx4 =>
 cZ (λk2 (st:(List Nat))=>nK a x1 x4 k2 st) (x4.length-0) 0 l2 >>= λl5 =>
 dj a x1 c >>= λr5 =>
 some (l5,r5)
def gp(a:Nat)(b:List (List Nat))(c:Nat):Option (List Nat) :=
 o9 8 ((b.length:Nat):Int) ((b.length:Nat):Int) (0:Nat) >>= λl1 =>
 cZ (λk1 (st:(List Nat)×Nat)=>jI a b c k1 st.1 st.2) (b.length-0) 0 (l1,1) >>= λ(l3,x3) =>
 some l3
def gM(a:ao)(k1:Nat)(x2:List (List (List Nat)))(k2:Nat)(l3:List Nat):Option (List Nat) :=
 x2[k2]? >>= λx4 =>
 some (sE ((k1:Nat):Int)) >>= λx5 =>
 gp a.zs.P x4 x5 >>= λr3 =>
 cU 8 l3 r3 >>= λl5 =>
 some l5
def gL(a:Int)(b:ao)(k1:Nat)(l1:List (List (List Nat))):Option (List (List (List Nat))) :=
 gY b.zd.S a >>= λx2 =>
 nN x2.length >>= λu2 =>
 cZ (λk2 (st:(List Nat))=>gM b k1 x2 k2 st) (x2.length-0) 0 ([]:List Nat) >>= λl4 =>
 gY l1 a >>= λx6 =>
 cU 24 x6 ([l4]:List (List Nat)) >>= λl6 =>
 some (l1.set a.toNat l6) >>= λl7 =>
 some l7
def fF(a:Int)(b:ao)(c:List (List (List Nat))):Option (List (List (List Nat))) :=
 nN (max 1 (b.zs.N+1).toNat) >>= λu1 =>
 cZ (λk1 (st:(List (List (List Nat))))=>gL a b k1 st) ((max 1 (b.zs.N+1).toNat)-1) 1 c >>= λl2 =>
 some l2
def cS(a:ao)(k1:Nat)(l1:List (List (List Nat))):Option (List (List (List Nat))) :=
 fF ((k1:Nat):Int) a l1 >>= λr2 =>
 some r2
def cm(a:ao)(b:List (List (List Nat))):Option (List (List (List Nat))) :=
 nN (max 0 (a.zs.N).toNat) >>= λu1 =>
 cZ (λk1 (st:(List (List (List Nat))))=>cS a k1 st) ((max 0 (a.zs.N).toNat)-0) 0 b >>= λl2 =>
 some l2
def cc(a:List (List Nat)):Option (List (List Nat)) :=
 cU 24 ([]:List (List Nat)) a >>= λl1 =>
 some l1
def jr(a:List Int)(b:Int)(k1:Nat):Option (Out Unit Int) :=
 a[k1]? >>= λx1 =>
 bif b==x1 then
  some (.fin ((k1:Nat):Int))
 else
  some (.go ())
def kD(a:List Int)(b:Int):Option Int :=
 qg (λk1 (st:Unit)=>jr a b k1) (a.length-0) 0 () >>= λr1=>ma r1 (λx=>some x) λ_ =>
 some (-1)
def dh(a:List Int)(b:Int):Option Bool :=
 kD a b >>= λr1 =>
 some (decide (r1≥(0:Int)))
def kT(a:ae)(b:aD)(c:Int):Option Bool :=
 bif b.Round==c then
  dh a.af b.From >>= λr1 =>
  some r1
 else
  some false
def nb(a:Nat)(b:Nat):Option Nat :=
 nP a 0 b >>= λr1 =>
 some r1
def cz(a:List Nat):Option (List Nat) :=
 cU 8 ([]:List Nat) a >>= λl1 =>
 some l1
def kV(a:List Nat)(b:Int):Option Nat :=
 bif decide (b<(0:Int)) then
  some 0
 else
  bif decide (b≥((a.length:Nat):Int)) then
   some 0
  else
   gY a b >>= λx1 =>
   some x1
def kU(a:ae)(b:aD)(c:List Nat)(d:List Nat):Option (List Nat) :=
 bif b.Kind==(4:Int) then
  some ([]:List Nat)
 else
  bif decide (b.At≥((c.length:Nat):Int)) then
   some c
  else
   nb a.S.P b.K >>= λr1 =>
   cz c >>= λr2 =>
   bif b.Kind==(1:Int) then
    gY r2 b.At >>= λx1 =>
    some (r2.set b.At.toNat r1) >>= λl1 =>
    some l1
   else
    bif b.Kind==(2:Int) then
     gY r2 b.At >>= λx2 =>
     lz a.S.P x2 r1 >>= λr3 =>
     some (r2.set b.At.toNat r3) >>= λl2 =>
     some l2
    else
     bif b.Kind==(3:Int) then
      dh a.af b.Of >>= λr4 =>
      (
       bif !r4 then
        kV d b.bG >>= λr5 =>
        some r5
       else
        some 0
      ) >>= λx3 =>
      gY r2 b.At >>= λx4 =>
      dj a.S.P r1 x3 >>= λr6 =>
      lz a.S.P x4 r6 >>= λr7 =>
      some (r2.set b.At.toNat r7) >>= λl3 =>
      some l3
     else
      some r2
def dI(a:List (List (List Nat)))(k1:Nat)(l2:List (List (List Nat))):Option (List (List (List Nat))) :=
 a[k1]? >>= λx2 =>
 cc x2 >>= λr2 =>
 l2[k1]? >>= λx3 =>
 some (l2.set k1 r2) >>= λl4 =>
 some l4
def gW(a:ae)(x5:aD)(l7:List Nat)(x10:Int)(k3:Nat)(l8:List (List (List Nat))):Option (List (List (List Nat))) :=
 (
  ee ((k3:Nat):Int) (1:Int) >>= λx14 =>
  bif x14 != x5.From then
   bif x5.To==(0:Int) then
    some true
   else
    some (x5.To==x14)
  else
   some false
 ) >>= λx13 =>
 bif x13 then
  gY l8 x10 >>= λx15 =>
  x15[k3]? >>= λx16 =>
  kU a x5 x16 l7 >>= λr6 =>
  some (x15.set k3 r6) >>= λl10 =>
  some (l8.set x10.toNat l10) >>= λl11 =>
  some l11
 else
  some l8
def gV(a:ae)(b:Int)(c:List (List (List Nat)))(k2:Nat)(l5:List (List (List Nat))):Option (List (List (List Nat))) :=
 a.aa[k2]? >>= λx5 =>
 kT a x5 b >>= λr4 =>
 bif !r4 then
  some l5
 else
  (
   bif x5.Kind==(3:Int) then
    jB x5.Of (1:Int) >>= λx6 =>
    gY c x6 >>= λx7 =>
    jB x5.From (1:Int) >>= λx8 =>
    gY x7 x8 >>= λx9 =>
    some x9
   else
    some ([]:List Nat)
  ) >>= λl7 =>
  jB x5.From (1:Int) >>= λx10 =>
  gY l5 x10 >>= λx11 =>
  nN x11.length >>= λu1 =>
  cZ (λk3 (st:(List (List (List Nat))))=>gW a x5 l7 x10 k3 st) (x11.length-0) 0 l5 >>= λl9 =>
  some l9
def bP(a:ae)(b:Int)(c:List (List (List Nat))):Option (List (List (List Nat))) :=
 o9 24 ((c.length:Nat):Int) ((c.length:Nat):Int) ([]:List (List Nat)) >>= λl1 =>
 cZ (λk1 (st:(List (List (List Nat))))=>dI c k1 st) (c.length-0) 0 l1 >>= λl3 =>
 cZ (λk2 (st:(List (List (List Nat))))=>gV a b c k2 st) (a.aa.length-0) 0 l3 >>= λl6 =>
 some l6
def jK(a:ai)(b:Int)(c:Int)(d:List Nat):Option (List (List am)) :=
 (
  bif b != c then
   some (decide (((d.length:Nat):Int)>(0:Int)))
  else
   some false
 ) >>= λx1 =>
 bif x1 then
  gY a.av b >>= λx2 =>
  ee c (1:Int) >>= λx3 =>
  cU 8 ([]:List Nat) d >>= λl1 =>
  cU 40 x2 ([(⟨a.ah,x3,l1⟩:am)]:List am) >>= λl2 =>
  some (a.av.set b.toNat l2) >>= λl3 =>
  some l3
 else
  some a.av
def hQ(a:ai)(r1:(List (List (List Nat))))(k1:Nat)(k2:Nat)(l6:List (List am))(l7:List (List (List Nat))):Option ((List (List am))×(List (List (List Nat)))) :=
 r1[k2]? >>= λx3 =>
 x3[k1]? >>= λx4 =>
 cU 8 ([]:List Nat) x4 >>= λl10 =>
 l7[k1]? >>= λx5 =>
 cU 24 x5 ([l10]:List (List Nat)) >>= λl11 =>
 some (l7.set k1 l11) >>= λl12 =>
 jK (⟨a.zw,a.ah,l6,a.ak⟩:ai) ((k1:Nat):Int) ((k2:Nat):Int) l10 >>= λr4 =>
 some (r4,l12)
def hO(a:ai)(r1:(List (List (List Nat))))(k1:Nat)(l2:List (List am))(l3:List (List (List Nat))):Option ((List (List am))×(List (List (List Nat)))) :=
 nN (max 0 (a.zw.S.N).toNat) >>= λu1 =>
 cZ (λk2 (st:(List (List am))×(List (List (List Nat))))=>hQ a r1 k1 k2 st.1 st.2) ((max 0 (a.zw.S.N).toNat)-0) 0 (l2,l3) >>= λ(l8,l9) =>
 some (l8,l9)
def iA(a:ai)(b:List (List (List Nat))):Option ((List (List (List Nat)))×Int×(List (List am))) :=
 bP a.zw a.ah b >>= λr1 =>
 o9 24 a.zw.S.N a.zw.S.N ([]:List (List Nat)) >>= λl1 =>
 cZ (λk1 (st:(List (List am))×(List (List (List Nat))))=>hO a r1 k1 st.1 st.2) (l1.length-0) 0 (a.av,l1) >>= λ(l4,l5) =>
 ee a.ah (1:Int) >>= λx6 =>
 some (l5,x6,l4)
def eg(a:List Nat)(b:Int):Option (List Nat) :=
 o9 8 b b (0:Nat) >>= λl1 =>
 some (jd l1 a)
def gO(a:Int)(r2:(List Nat))(k2:Nat)(l3:List (List Nat)):Option (List (List Nat)) :=
 jX ((k2:Nat):Int) a >>= λx7 =>
 ee ((k2:Nat):Int) (1:Int) >>= λx8 =>
 jX x8 a >>= λx9 =>
 oU r2 x7 x9 >>= λl5 =>
 cU 24 l3 ([l5]:List (List Nat)) >>= λl6 =>
 some l6
def gN(a:Int)(b:ao)(c:List (List (List Nat)))(d:Int)(k1:Nat)(l1:List (List (List (List Nat)))):Option (List (List (List (List Nat)))) :=
 b.zq[k1]? >>= λx2 =>
 gY c a >>= λx3 =>
 x3[k1]? >>= λx4 =>
 jX ((x2.length:Nat):Int) d >>= λx5 =>
 eg x4 x5 >>= λr2 =>
 cZ (λk2 (st:(List (List Nat)))=>gO d r2 k2 st) (x2.length-0) 0 ([]:List (List Nat)) >>= λl4 =>
 gY l1 a >>= λx10 =>
 cU 24 x10 ([l4]:List (List (List Nat))) >>= λl7 =>
 some (l1.set a.toNat l7) >>= λl8 =>
 some l8
def fG(a:Int)(b:ao)(c:List (List (List Nat)))(d:Int):Option aU :=
 cZ (λk1 (st:(List (List (List (List Nat)))))=>gN a b c d k1 st) (b.zq.length-0) 0 b.zd.Rows >>= λl2 =>
 some (⟨b.zd.S,l2,b.zd.aO⟩:aU)
def bI(a:ao)(b:List (List (List Nat)))(c:Int)(k1:Nat)(l1:List (List (List (List Nat))))(l2:List (List (List (List Nat))))(l3:List (List (List Nat))):Option ((List (List (List (List Nat))))×(List (List (List (List Nat))))×(List (List (List Nat)))) :=
 fG ((k1:Nat):Int) (⟨a.zn,a.zs,a.zq,(⟨l1,l2,l3⟩:aU)⟩:ao) b c >>= λr2 =>
 some (r2.S,r2.Rows,r2.aO)
def cq(a:ao)(b:List (List (List Nat)))(c:Int):Option aU :=
 nN (max 0 (a.zs.N).toNat) >>= λu1 =>
 cZ (λk1 (st:(List (List (List (List Nat))))×(List (List (List (List Nat))))×(List (List (List Nat))))=>bI a b c k1 st.1 st.2.1 st.2.2) ((max 0 (a.zs.N).toNat)-0) 0 (a.zd.S,a.zd.Rows,a.zd.aO) >>= λ(l4,l5,l6) =>
 some (⟨l4,l5,l6⟩:aU)
def gw(a:ao):Option (Int×(List (List am))×aU) :=
 ee a.zs.T (1:Int) >>= λx1 =>
 o9 24 a.zs.N a.zs.N ([]:List (List Nat)) >>= λl1 =>
 cm a l1 >>= λr1 =>
 iA a.zn r1 >>= λr2 =>
 cq (⟨(⟨a.zn.zw,r2.2.1,r2.2.2,a.zn.ak⟩:ai),a.zs,a.zq,a.zd⟩:ao) r2.1 x1 >>= λr3 =>
 some (r2.2.1,r2.2.2,r3)
def ng(a:Nat)(b:List Nat)(c:Nat)(x2:Nat)(x3:Int):Option (Out (Nat×Int) Nat) :=
 bif decide (x3≥(0:Int)) then
  dj a x2 c >>= λr2 =>
  gY b x3 >>= λx6 =>
  lz a r2 x6 >>= λr3 =>
  jB x3 (1:Int) >>= λx7 =>
  some (.go (r3,x7))
 else
  some (.fin x2)
def i7(a:Nat)(b:List Nat)(c:Nat):Option Nat :=
 jB ((b.length:Nat):Int) (1:Int) >>= λx1 =>
 vM (λ(st:Nat×Int)=>ng a b c st.1 st.2) big (0,x1) >>= λx5 =>
 some x5
def mS(a:ao)(b:Int)(x3:List (List Nat))(k2:Nat)(l3:List Nat):Option (List Nat) :=
 x3[k2]? >>= λx5 =>
 some (sE b) >>= λx6 =>
 i7 a.zs.P x5 x6 >>= λr3 =>
 cU 8 l3 ([r3]:List Nat) >>= λl5 =>
 some l5
def jU(a:ao)(b:Int)(x1:List (List (List Nat)))(k1:Nat)(l1:List Nat):Option (List Nat) :=
 x1[k1]? >>= λx3 =>
 cZ (λk2 (st:(List Nat))=>mS a b x3 k2 st) (x3.length-0) 0 l1 >>= λl4 =>
 some l4
def gP(a:ao)(b:Int)(c:Int):Option (List Nat) :=
 gY a.zd.Rows b >>= λx1 =>
 nN x1.length >>= λu1 =>
 cZ (λk1 (st:(List Nat))=>jU a c x1 k1 st) (x1.length-0) 0 ([]:List Nat) >>= λl2 =>
 some l2
def lr(a:Int)(b:ao)(k1:Nat)(l1:List (List (List Nat))):Option (List (List (List Nat))) :=
 gY l1 a >>= λx2 =>
 gP b a ((k1:Nat):Int) >>= λr2 =>
 cU 24 x2 ([r2]:List (List Nat)) >>= λl3 =>
 some (l1.set a.toNat l3) >>= λl4 =>
 some l4
def jT(a:Int)(b:ao)(c:List (List (List Nat))):Option (List (List (List Nat))) :=
 nN (max 1 (b.zs.N+1).toNat) >>= λu1 =>
 cZ (λk1 (st:(List (List (List Nat))))=>lr a b k1 st) ((max 1 (b.zs.N+1).toNat)-1) 1 c >>= λl2 =>
 some l2
def eL(a:ao)(k1:Nat)(l1:List (List (List Nat))):Option (List (List (List Nat))) :=
 jT ((k1:Nat):Int) a l1 >>= λr2 =>
 some r2
def cK(a:ao)(b:List (List (List Nat))):Option (List (List (List Nat))) :=
 nN (max 0 (a.zs.N).toNat) >>= λu1 =>
 cZ (λk1 (st:(List (List (List Nat))))=>eL a k1 st) ((max 0 (a.zs.N).toNat)-0) 0 b >>= λl2 =>
 some l2
def iT(a:ao):Option ((List (List (List Nat)))×Int×(List (List am))) :=
 o9 24 a.zs.N a.zs.N ([]:List (List Nat)) >>= λl1 =>
 cK a l1 >>= λr1 =>
 iA a.zn r1 >>= λr2 =>
 some (r2.1,r2.2.1,r2.2.2)
def fI(a:ao)(k1:Nat)(r2:(List Nat))(r3:(List Nat))(k2:Nat)(k3:Nat)(l6:List Nat)(x9:Int):Option ((List Nat)×Int) :=
 gY r3 x9 >>= λx12 =>
 gY r2 x9 >>= λx13 =>
 bif ((x12:Nat):Int) != ((x13:Nat):Int) then
  jX ((k2:Nat):Int) a.zs.N >>= λx14 =>
  ee x14 ((k1:Nat):Int) >>= λx15 =>
  gY l6 x15 >>= λx16 =>
  some (l6.set x15.toNat 1) >>= λl8 =>
  ee x9 (1:Int) >>= λx17 =>
  some (l8,x17)
 else
  ee x9 (1:Int) >>= λx18 =>
  some (l6,x18)
def fH(a:ao)(k1:Nat)(r2:(List Nat))(r3:(List Nat))(k2:Nat)(l4:List Nat)(x5:Int):Option ((List Nat)×Int) :=
 a.zq[k2]? >>= λx8 =>
 cZ (λk3 (st:(List Nat)×Int)=>fI a k1 r2 r3 k2 k3 st.1 st.2) (x8.length-0) 0 (l4,x5) >>= λ(l7,x11) =>
 some (l7,x11)
def kq(a:ao)(b:Int)(c:List (List Nat))(k1:Nat)(l2:List Nat):Option (List Nat) :=
 bif ((k1:Nat):Int)==b then
  some l2
 else
  ee ((k1:Nat):Int) (1:Int) >>= λx3 =>
  gP a b x3 >>= λr2 =>
  c[k1]? >>= λx4 =>
  eg x4 ((r2.length:Nat):Int) >>= λr3 =>
  cZ (λk2 (st:(List Nat)×Int)=>fH a k1 r2 r3 k2 st.1 st.2) (a.zq.length-0) 0 (l2,((0:Nat):Int)) >>= λ(l5,x7) =>
  some l5
def dN(a:ao)(b:Int)(c:List (List Nat)):Option (List Nat) :=
 jX a.zs.N a.zs.N >>= λx1 =>
 o9 8 x1 x1 (0:Nat) >>= λl1 =>
 nN (max 0 (a.zs.N).toNat) >>= λu1 =>
 cZ (λk1 (st:(List Nat))=>kq a b c k1 st) ((max 0 (a.zs.N).toNat)-0) 0 l1 >>= λl3 =>
 some l3
def jy(a:Int)(b:ao)(c:List (List (List Nat)))(d:List (List Nat)):Option (List (List Nat)) :=
 gY c a >>= λx1 =>
 dN b a x1 >>= λr1 =>
 gY d a >>= λx2 =>
 some (d.set a.toNat r1) >>= λl1 =>
 some l1
def eE(a:ao)(b:List (List (List Nat)))(k1:Nat)(l1:List (List Nat)):Option (List (List Nat)) :=
 jy ((k1:Nat):Int) a b l1 >>= λr2 =>
 some r2
def cD(a:ao)(b:List (List (List Nat)))(c:List (List Nat)):Option (List (List Nat)) :=
 nN (max 0 (a.zs.N).toNat) >>= λu1 =>
 cZ (λk1 (st:(List (List Nat)))=>eE a b k1 st) ((max 0 (a.zs.N).toNat)-0) 0 c >>= λl2 =>
 some l2
def fT(a:ae)(b:Int)(c:List (List Nat))(k1:Nat)(l1:List (List Nat)):Option (List (List Nat)) :=
 a.aa[k1]? >>= λx2 =>
 kT a x2 b >>= λr3 =>
 bif !r3 then
  some l1
 else
  (
   bif x2.Kind==(3:Int) then
    jB x2.Of (1:Int) >>= λx3 =>
    gY c x3 >>= λx4 =>
    some x4
   else
    some ([]:List Nat)
  ) >>= λl3 =>
  jB x2.From (1:Int) >>= λx5 =>
  gY l1 x5 >>= λx6 =>
  kU a x2 x6 l3 >>= λr4 =>
  some (l1.set x5.toNat r4) >>= λl4 =>
  some l4
def bk(a:ae)(b:Int)(c:List (List Nat)):Option (List (List Nat)) :=
 cc c >>= λr1 =>
 cZ (λk1 (st:(List (List Nat)))=>fT a b c k1 st) (a.aa.length-0) 0 r1 >>= λl2 =>
 some l2
def jn(a:ai)(k1:Nat)(l7:List (List Nat))(k2:Nat)(l8:List (List am)):Option (List (List am)) :=
 l7[k1]? >>= λx5 =>
 jK (⟨a.zw,a.ah,l8,a.ak⟩:ai) ((k2:Nat):Int) ((k1:Nat):Int) x5 >>= λr4 =>
 some r4
def fb(a:ai)(r1:(List (List Nat)))(k1:Nat)(l2:List (List am))(l3:List (List Nat)):Option ((List (List am))×(List (List Nat))) :=
 r1[k1]? >>= λx2 =>
 cU 8 ([]:List Nat) x2 >>= λl6 =>
 l3[k1]? >>= λx3 =>
 some (l3.set k1 l6) >>= λl7 =>
 cZ (λk2 (st:(List (List am)))=>jn a k1 l7 k2 st) (l7.length-0) 0 l2 >>= λl9 =>
 some (l9,l7)
def cu(a:ai)(b:List (List Nat)):Option ((List (List Nat))×Int×(List (List am))) :=
 bk a.zw a.ah b >>= λr1 =>
 o9 24 a.zw.S.N a.zw.S.N (([]:List Nat):List Nat) >>= λl1 =>
 cZ (λk1 (st:(List (List am))×(List (List Nat)))=>fb a r1 k1 st.1 st.2) (l1.length-0) 0 (a.av,l1) >>= λ(l4,l5) =>
 ee a.ah (1:Int) >>= λx6 =>
 some (l5,x6,l4)
def kP(a:Int)(b:ao)(r1:(List Nat))(k1:Nat)(l1:List (List (List Nat))):Option (List (List (List Nat))) :=
 gY l1 a >>= λx4 =>
 jX ((k1:Nat):Int) b.zs.N >>= λx5 =>
 ee ((k1:Nat):Int) (1:Int) >>= λx6 =>
 jX x6 b.zs.N >>= λx7 =>
 oU r1 x5 x7 >>= λl3 =>
 cU 24 x4 ([l3]:List (List Nat)) >>= λl4 =>
 some (l1.set a.toNat l4) >>= λl5 =>
 some l5
def gv(a:Int)(b:List (List Nat))(c:ao):Option aU :=
 gY b a >>= λx1 =>
 jX c.zs.N c.zs.N >>= λx2 =>
 eg x1 x2 >>= λr1 =>
 nN (max 0 (c.zs.N).toNat) >>= λu1 =>
 cZ (λk1 (st:(List (List (List Nat))))=>kP a c r1 k1 st) ((max 0 (c.zs.N).toNat)-0) 0 c.zd.aO >>= λl2 =>
 some (⟨c.zd.S,c.zd.Rows,l2⟩:aU)
def bM(a:ao)(b:List (List Nat))(k1:Nat)(l1:List (List (List (List Nat))))(l2:List (List (List (List Nat))))(l3:List (List (List Nat))):Option ((List (List (List (List Nat))))×(List (List (List (List Nat))))×(List (List (List Nat)))) :=
 gv ((k1:Nat):Int) b (⟨a.zn,a.zs,a.zq,(⟨l1,l2,l3⟩:aU)⟩:ao) >>= λr2 =>
 some (r2.S,r2.Rows,r2.aO)
def cE(a:ao)(b:List (List Nat)):Option aU :=
 nN (max 0 (a.zs.N).toNat) >>= λu1 =>
 cZ (λk1 (st:(List (List (List (List Nat))))×(List (List (List (List Nat))))×(List (List (List Nat))))=>bM a b k1 st.1 st.2.1 st.2.2) ((max 0 (a.zs.N).toNat)-0) 0 (a.zd.S,a.zd.Rows,a.zd.aO) >>= λ(l4,l5,l6) =>
 some (⟨l4,l5,l6⟩:aU)
def ip(a:ao)(b:List (List (List Nat))):Option (Int×(List (List am))×aU) :=
 o9 24 a.zs.N a.zs.N (([]:List Nat):List Nat) >>= λl1 =>
 cD a b l1 >>= λr1 =>
 cu a.zn r1 >>= λr2 =>
 cE (⟨(⟨a.zn.zw,r2.2.1,r2.2.2,a.zn.ak⟩:ai),a.zs,a.zq,a.zd⟩:ao) r2.1 >>= λr3 =>
 some (r2.2.1,r2.2.2,r3)
def kp(a:ai)(b:List (List (List Nat))):Option (aU×Int×(List (List am))×(List aL)) :=
 bp a >>= λr1 =>
 o9 24 r1.S.N r1.S.N ([]:List (List (List Nat))) >>= λl1 =>
 o9 24 r1.S.N r1.S.N ([]:List (List Nat)) >>= λl2 =>
 ji (⟨a,r1.S,b,(⟨l1,l1,l2⟩:aU)⟩:ao) >>= λr2 =>
 gw (⟨(⟨a.zw,a.ah,a.av,r2.1⟩:ai),r1.S,b,r2.2⟩:ao) >>= λr3 =>
 iT (⟨(⟨a.zw,r3.1,r3.2.1,r2.1⟩:ai),r1.S,b,r3.2.2⟩:ao) >>= λr4 =>
 ip (⟨(⟨a.zw,r4.2.1,r4.2.2,r2.1⟩:ai),r1.S,b,r3.2.2⟩:ao) r4.1 >>= λr5 =>
 some (r5.2.2,r5.1,r5.2.1,r2.1)
def bu(a:ax):Option Int :=
 some ((a.zd.Rows.length:Nat):Int)
def nH(k1:Nat)(x3:List Nat)(k2:Nat)(l3:List cg):Option (List cg) :=
 x3[k2]? >>= λx5 =>
 bif ((x5:Nat):Int) != (0:Int) then
  cU 16 l3 ([(⟨((k1:Nat):Int),((k2:Nat):Int)⟩:cg)]:List cg) >>= λl5 =>
  some l5
 else
  some l3
def kE(a:ax)(b:Int)(k1:Nat)(l1:List cg):Option (List cg) :=
 a.zd.aO[k1]? >>= λx2 =>
 gY x2 b >>= λx3 =>
 cZ (λk2 (st:(List cg))=>nH k1 x3 k2 st) (x3.length-0) 0 l1 >>= λl4 =>
 some l4
def gn(a:ax)(b:Int):Option (List cg) :=
 bu a >>= λr1 =>
 nN (max 0 (r1).toNat) >>= λu1 =>
 cZ (λk1 (st:(List cg))=>kE a b k1 st) ((max 0 (r1).toNat)-0) 0 ([]:List cg) >>= λl2 =>
 some l2
def sj(a:Int):Option Nat :=
 ee a (1:Int) >>= λx1 =>
 some (sE x1) >>= λx2 =>
 some x2
def mX(a:Nat)(b:List (List Nat))(c:Nat)(d:Nat):Option Nat :=
 gp a b c >>= λr1 =>
 i7 a r1 d >>= λr2 =>
 some r2
def hJ(a:ax)(b:Int):Option Int :=
 gY a.zd.S b >>= λx1 =>
 some ((x1.length:Nat):Int)
def jS(a:n2)(b:Int):Option ((List Nat)×(List Nat)) :=
 eg a.zl b >>= λr1 =>
 some (min b ((a.zl.length:Nat):Int)) >>= λx1 =>
 oU a.zl x1 ((a.zl.length:Nat):Int) >>= λl1 =>
 some (r1,l1)
def oz(a:ax)(x3:cg)(x4:List (List (List Nat)))(k3:Nat)(l5:List Nat):Option (List Nat) :=
 x4[k3]? >>= λx6 =>
 sj x3.e0 >>= λr6 =>
 sj x3.e1 >>= λr7 =>
 mX a.zp x6 r6 r7 >>= λr8 =>
 cU 8 l5 ([r8]:List Nat) >>= λl7 =>
 some l7
def lm(a:ax)(k1:Nat)(r3:(List cg))(k2:Nat)(l3:List Nat):Option (List Nat) :=
 r3[k2]? >>= λx3 =>
 a.zd.S[k1]? >>= λx4 =>
 cZ (λk3 (st:(List Nat))=>oz a x3 x4 k3 st) (x4.length-0) 0 l3 >>= λl6 =>
 some l6
def lk(a:ax)(k1:Nat)(l1:List (List Nat)):Option (List (List Nat)) :=
 gn a ((k1:Nat):Int) >>= λr3 =>
 cZ (λk2 (st:(List Nat))=>lm a k1 r3 k2 st) (r3.length-0) 0 ([]:List Nat) >>= λl4 =>
 cU 24 l1 ([l4]:List (List Nat)) >>= λl8 =>
 some l8
def gK(a:ax)(r9:(List (List Nat))×Int×(List (List am)))(k4:Nat)(k5:Nat)(l11:List Nat)(l12:List (List Nat)):Option ((List Nat)×(List (List Nat))) :=
 hJ (⟨(⟨a.zn.zw,r9.2.1,r9.2.2,a.zn.ak⟩:ai),a.zp,a.zd,a.bg,a.ca,a.dA⟩:ax) ((k4:Nat):Int) >>= λr14 =>
 jS (⟨l11⟩:n2) r14 >>= λr15 =>
 cU 24 l12 ([r15.1]:List (List Nat)) >>= λl15 =>
 some (r15.2,l15)
def oB(a:ax)(r9:(List (List Nat))×Int×(List (List am)))(k4:Nat)(l9:List (List (List Nat))):Option (List (List (List Nat))) :=
 r9.1[k4]? >>= λx8 =>
 gn (⟨(⟨a.zn.zw,r9.2.1,r9.2.2,a.zn.ak⟩:ai),a.zp,a.zd,a.bg,a.ca,a.dA⟩:ax) ((k4:Nat):Int) >>= λr12 =>
 cZ (λk5 (st:(List Nat)×(List (List Nat)))=>gK a r9 k4 k5 st.1 st.2) (r12.length-0) 0 (x8,([]:List (List Nat))) >>= λ(l13,l14) =>
 cU 24 l9 ([l14]:List (List (List Nat))) >>= λl16 =>
 some l16
def kN(a:ax):Option ((List (List (List Nat)))×Int×(List (List am))) :=
 bu a >>= λr1 =>
 nN (max 0 (r1).toNat) >>= λu1 =>
 cZ (λk1 (st:(List (List Nat)))=>lk a k1 st) ((max 0 (r1).toNat)-0) 0 ([]:List (List Nat)) >>= λl2 =>
 cu a.zn l2 >>= λr9 =>
 bu (⟨(⟨a.zn.zw,r9.2.1,r9.2.2,a.zn.ak⟩:ai),a.zp,a.zd,a.bg,a.ca,a.dA⟩:ax) >>= λr10 =>
 nN (max 0 (r10).toNat) >>= λu2 =>
 cZ (λk4 (st:(List (List (List Nat))))=>oB a r9 k4 st) ((max 0 (r10).toNat)-0) 0 ([]:List (List (List Nat))) >>= λl10 =>
 some (l10,r9.2.1,r9.2.2)
def sk(a:cg)(b:Int):Option (List Int) :=
 (
  bif a.e0==b then
   cU 8 ([]:List Int) ([a.e1]:List Int) >>= λl2 =>
   some l2
  else
   some ([]:List Int)
 ) >>= λl1 =>
 bif a.e1==b then
  cU 8 l1 ([a.e0]:List Int) >>= λl3 =>
  some l3
 else
  some l1
def mf(a:ax)(b:Int)(c:Int)(d:Int):Option (List Nat) :=
 gY a.zd.Rows b >>= λx1 =>
 gY x1 c >>= λx2 =>
 gY x2 d >>= λx3 =>
 some x3
def lq(a:ax)(b:Int)(c:Int)(x2:Int)(x3:List Nat)(k3:Nat):Option (Out Unit Bool) :=
 x3[k3]? >>= λx4 =>
 mf a b c ((k3:Nat):Int) >>= λr6 =>
 sj x2 >>= λr7 =>
 i7 a.zp r6 r7 >>= λr8 =>
 bif ((r8:Nat):Int) != ((x4:Nat):Int) then
  some (.fin true)
 else
  some (.go ())
def lp(a:ax)(b:Int)(c:Int)(d:List (List Nat))(k1:Nat)(r3:(List Int))(k2:Nat):Option (Out Unit Bool) :=
 r3[k2]? >>= λx2 =>
 d[k1]? >>= λx3 =>
 qg (λk3 (st:Unit)=>lq a b c x2 x3 k3) (x3.length-0) 0 () >>= λr5=>ma r5 (λx=>some (.fin x)) λ_ =>
 some (.go ())
def ln(a:ax)(b:Int)(c:Int)(d:List (List Nat))(r1:(List cg))(k1:Nat):Option (Out Unit Bool) :=
 r1[k1]? >>= λx1 =>
 sk x1 b >>= λr3 =>
 qg (λk2 (st:Unit)=>lp a b c d k1 r3 k2) (r3.length-0) 0 () >>= λr4=>ma r4 (λx=>some (.fin x)) λ_ =>
 some (.go ())
def kO(a:ax)(b:Int)(c:Int)(d:List (List Nat)):Option Bool :=
 gn a c >>= λr1 =>
 qg (λk1 (st:Unit)=>ln a b c d r1 k1) (r1.length-0) 0 () >>= λr2=>ma r2 (λx=>some x) λ_ =>
 some false
def iL(a:Int)(b:Int)(c:ax)(d:List (List (List Nat))):Option Bool :=
 gY d b >>= λx1 =>
 kO c a b x1 >>= λr1 =>
 some r1
def mh(a:ax)(b:List (List (List Nat)))(k1:Nat)(k2:Nat)(l3:List Nat):Option (List Nat) :=
 iL ((k1:Nat):Int) ((k2:Nat):Int) a b >>= λr4 =>
 bif r4 then
  cU 8 l3 ([1]:List Nat) >>= λl5 =>
  some l5
 else
  cU 8 l3 ([0]:List Nat) >>= λl6 =>
  some l6
def mg(a:ax)(b:List (List (List Nat)))(r1:Int)(k1:Nat)(l1:List (List Nat)):Option (List (List Nat)) :=
 cZ (λk2 (st:(List Nat))=>mh a b k1 k2 st) ((max 0 (r1).toNat)-0) 0 ([]:List Nat) >>= λl4 =>
 cU 24 l1 ([l4]:List (List Nat)) >>= λl7 =>
 some l7
def iu(r5:(List (List Nat))×Int×(List (List am)))(r6:Int)(k3:Nat)(k4:Nat)(l11:List (List Bool)):Option (List (List Bool)) :=
 l11[k3]? >>= λx5 =>
 r5.1[k4]? >>= λx6 =>
 eg x6 r6 >>= λr9 =>
 r9[k3]? >>= λx7 =>
 cU 1 x5 ([((x7:Nat):Int) != (0:Int)]:List Bool) >>= λl13 =>
 some (l11.set k3 l13) >>= λl14 =>
 some l14
def fj(r5:(List (List Nat))×Int×(List (List am)))(r6:Int)(k3:Nat)(l9:List (List Bool)):Option (List (List Bool)) :=
 nN (max 0 (r6).toNat) >>= λu2 =>
 cZ (λk4 (st:(List (List Bool)))=>iu r5 r6 k3 k4 st) ((max 0 (r6).toNat)-0) 0 l9 >>= λl12 =>
 some l12
def fE(a:ax)(b:List (List (List Nat))):Option ((List (List Bool))×Int×(List (List am))) :=
 bu a >>= λr1 =>
 nN (max 0 (r1).toNat) >>= λu1 =>
 cZ (λk1 (st:(List (List Nat)))=>mg a b r1 k1 st) ((max 0 (r1).toNat)-0) 0 ([]:List (List Nat)) >>= λl2 =>
 cu a.zn l2 >>= λr5 =>
 bu (⟨(⟨a.zn.zw,r5.2.1,r5.2.2,a.zn.ak⟩:ai),a.zp,a.zd,a.bg,a.ca,a.dA⟩:ax) >>= λr6 =>
 o9 24 r6 r6 ([]:List Bool) >>= λl8 =>
 cZ (λk3 (st:(List (List Bool)))=>fj r5 r6 k3 st) (l8.length-0) 0 l8 >>= λl10 =>
 some (l10,r5.2.1,r5.2.2)
def qv(a:ax)(k2:Nat)(x5:List (List (List Nat)))(k3:Nat)(l5:List Nat):Option (List Nat) :=
 x5[k3]? >>= λx7 =>
 sj ((k2:Nat):Int) >>= λr5 =>
 gp a.zp x7 r5 >>= λr6 =>
 cU 8 l5 r6 >>= λl7 =>
 some l7
def nw(a:ax)(k1:Nat)(x2:List Bool)(k2:Nat)(l3:List Nat):Option (List Nat) :=
 x2[k2]? >>= λx4 =>
 bif x4 then
  a.zd.S[k1]? >>= λx5 =>
  cZ (λk3 (st:(List Nat))=>qv a k2 x5 k3 st) (x5.length-0) 0 l3 >>= λl6 =>
  some l6
 else
  some l3
def nv(a:ax)(k1:Nat)(l1:List (List Nat)):Option (List (List Nat)) :=
 a.bg[k1]? >>= λx2 =>
 cZ (λk2 (st:(List Nat))=>nw a k1 x2 k2 st) (x2.length-0) 0 ([]:List Nat) >>= λl4 =>
 cU 24 l1 ([l4]:List (List Nat)) >>= λl8 =>
 some l8
def jh(x8:Int)(k5:Nat)(k6:Nat)(l16:List Nat)(l17:List (List (List Nat))):Option ((List Nat)×(List (List (List Nat)))) :=
 l17[k5]? >>= λx15 =>
 jS (⟨l16⟩:n2) x8 >>= λr15 =>
 cU 24 x15 ([r15.1]:List (List Nat)) >>= λl20 =>
 some (l17.set k5 l20) >>= λl21 =>
 some (r15.2,l21)
def gU(a:ax)(r7:(List (List Nat))×Int×(List (List am)))(x8:Int)(l9:List (List (List (List Nat))))(k4:Nat)(x11:List Bool)(k5:Nat)(l12:List Nat)(l13:List (List (List Nat))):Option ((List Nat)×(List (List (List Nat)))) :=
 x11[k5]? >>= λx13 =>
 bif x13 then
  hJ (⟨(⟨a.zn.zw,r7.2.1,r7.2.2,a.zn.ak⟩:ai),a.zp,a.zd,a.bg,a.ca,l9⟩:ax) ((k4:Nat):Int) >>= λr13 =>
  nN (max 0 (r13).toNat) >>= λu3 =>
  cZ (λk6 (st:(List Nat)×(List (List (List Nat))))=>jh x8 k5 k6 st.1 st.2) ((max 0 (r13).toNat)-0) 0 (l12,l13) >>= λ(l18,l19) =>
  some (l18,l19)
 else
  some (l12,l13)
def qw(a:ax)(r7:(List (List Nat))×Int×(List (List am)))(x8:Int)(k4:Nat)(l9:List (List (List (List Nat)))):Option (List (List (List (List Nat)))) :=
 r7.1[k4]? >>= λx10 =>
 bu (⟨(⟨a.zn.zw,r7.2.1,r7.2.2,a.zn.ak⟩:ai),a.zp,a.zd,a.bg,a.ca,l9⟩:ax) >>= λr11 =>
 o9 24 r11 r11 ([]:List (List Nat)) >>= λl11 =>
 a.bg[k4]? >>= λx11 =>
 cZ (λk5 (st:(List Nat)×(List (List (List Nat))))=>gU a r7 x8 l9 k4 x11 k5 st.1 st.2) (x11.length-0) 0 (x10,l11) >>= λ(l14,l15) =>
 cU 24 l9 ([l15]:List (List (List (List Nat)))) >>= λl22 =>
 some l22
def nu(a:ax):Option (Int×(List (List am))×(List (List (List (List Nat))))) :=
 bu a >>= λr1 =>
 nN (max 0 (r1).toNat) >>= λu1 =>
 cZ (λk1 (st:(List (List Nat)))=>nv a k1 st) ((max 0 (r1).toNat)-0) 0 ([]:List (List Nat)) >>= λl2 =>
 cu a.zn l2 >>= λr7 =>
 bp (⟨a.zn.zw,r7.2.1,r7.2.2,a.zn.ak⟩:ai) >>= λr8 =>
 ee r8.S.T (1:Int) >>= λx8 =>
 bu (⟨(⟨a.zn.zw,r7.2.1,r7.2.2,a.zn.ak⟩:ai),a.zp,a.zd,a.bg,a.ca,a.dA⟩:ax) >>= λr9 =>
 nN (max 0 (r9).toNat) >>= λu2 =>
 cZ (λk4 (st:(List (List (List (List Nat)))))=>qw a r7 x8 k4 st) ((max 0 (r9).toNat)-0) 0 a.dA >>= λl10 =>
 some (r7.2.1,r7.2.2,l10)
def ko(a:ax)(b:Int)(c:Int)(k1:Nat)(x4:List (List Nat))(k2:Nat):Option (Out Unit Bool) :=
 x4[k2]? >>= λx5 =>
 sj b >>= λr3 =>
 i7 a.zp x5 r3 >>= λr4 =>
 mf a b c ((k2:Nat):Int) >>= λr5 =>
 sj ((k1:Nat):Int) >>= λr6 =>
 i7 a.zp r5 r6 >>= λr7 =>
 bif ((r4:Nat):Int) != ((r7:Nat):Int) then
  some (.fin true)
 else
  some (.go ())
def kn(a:ax)(b:Int)(c:Int)(x3:List (List (List Nat)))(k1:Nat):Option (Out Unit Bool) :=
 x3[k1]? >>= λx4 =>
 qg (λk2 (st:Unit)=>ko a b c k1 x4 k2) (x4.length-0) 0 () >>= λr2=>ma r2 (λx=>some (.fin x)) λ_ =>
 some (.go ())
def dM(a:ax)(b:Int)(c:Int):Option Bool :=
 gY a.bg c >>= λx1 =>
 gY x1 b >>= λx2 =>
 bif x2 then
  some false
 else
  gY a.dA c >>= λx3 =>
  qg (λk1 (st:Unit)=>kn a b c x3 k1) (x3.length-0) 0 () >>= λr1=>ma r1 (λx=>some x) λ_ =>
  some false
def kG(a:ax)(k1:Nat)(k2:Nat)(l3:List Nat):Option (List Nat) :=
 dM a ((k1:Nat):Int) ((k2:Nat):Int) >>= λr4 =>
 bif r4 then
  cU 8 l3 ([1]:List Nat) >>= λl5 =>
  some l5
 else
  cU 8 l3 ([0]:List Nat) >>= λl6 =>
  some l6
def kF(a:ax)(r1:Int)(k1:Nat)(l1:List (List Nat)):Option (List (List Nat)) :=
 cZ (λk2 (st:(List Nat))=>kG a k1 k2 st) ((max 0 (r1).toNat)-0) 0 ([]:List Nat) >>= λl4 =>
 cU 24 l1 ([l4]:List (List Nat)) >>= λl7 =>
 some l7
def kI(r5:(List (List Nat))×Int×(List (List am)))(r6:Int)(k3:Nat)(k4:Nat)(l11:List (List Bool)):Option (List (List Bool)) :=
 l11[k3]? >>= λx5 =>
 r5.1[k4]? >>= λx6 =>
 eg x6 r6 >>= λr9 =>
 r9[k3]? >>= λx7 =>
 cU 1 x5 ([((x7:Nat):Int) != (0:Int)]:List Bool) >>= λl13 =>
 some (l11.set k3 l13) >>= λl14 =>
 some l14
def kH(r5:(List (List Nat))×Int×(List (List am)))(r6:Int)(k3:Nat)(l9:List (List Bool)):Option (List (List Bool)) :=
 nN (max 0 (r6).toNat) >>= λu2 =>
 cZ (λk4 (st:(List (List Bool)))=>kI r5 r6 k3 k4 st) ((max 0 (r6).toNat)-0) 0 l9 >>= λl12 =>
 some l12
def eI(a:ax):Option ((List (List Bool))×Int×(List (List am))) :=
 bu a >>= λr1 =>
 nN (max 0 (r1).toNat) >>= λu1 =>
 cZ (λk1 (st:(List (List Nat)))=>kF a r1 k1 st) ((max 0 (r1).toNat)-0) 0 ([]:List (List Nat)) >>= λl2 =>
 cu a.zn l2 >>= λr5 =>
 bu (⟨(⟨a.zn.zw,r5.2.1,r5.2.2,a.zn.ak⟩:ai),a.zp,a.zd,a.bg,a.ca,a.dA⟩:ax) >>= λr6 =>
 o9 24 r6 r6 ([]:List Bool) >>= λl8 =>
 cZ (λk3 (st:(List (List Bool)))=>kH r5 r6 k3 st) (l8.length-0) 0 l8 >>= λl10 =>
 some (l10,r5.2.1,r5.2.2)
def n0(a:ax)(b:Int)(k1:Nat)(x1:Int):Option Int :=
 gY a.bg b >>= λx4 =>
 x4[k1]? >>= λx5 =>
 bif x5 then
  ee x1 (1:Int) >>= λx6 =>
  some x6
 else
  gY a.ca b >>= λx7 =>
  x7[k1]? >>= λx8 =>
  bif x8 then
   ee x1 (1:Int) >>= λx9 =>
   some x9
  else
   some x1
def oc(a:ax)(b:Int):Option Bool :=
 bu a >>= λr1 =>
 nN (max 0 (r1).toNat) >>= λu1 =>
 cZ (λk1 (st:Int)=>n0 a b k1 st) ((max 0 (r1).toNat)-0) 0 ((0:Nat):Int) >>= λx3 =>
 bp a.zn >>= λr3 =>
 some (decide (x3>r3.S.T))
def qu(a:ax)(k1:Nat)(l2:List (List Nat)):Option (List (List Nat)) :=
 bp a.zn >>= λr3 =>
 ee r3.S.T (1:Int) >>= λx2 =>
 o9 8 x2 x2 (0:Nat) >>= λl4 =>
 l2[k1]? >>= λx3 =>
 some (l2.set k1 l4) >>= λl5 =>
 some l5
def nt(a:ax)(b:Int)(c:Int)(d:Bool):Option (List (List Nat)) :=
 bif d then
  hJ a c >>= λr1 =>
  o9 24 r1 r1 (([]:List Nat):List Nat) >>= λl1 =>
  cZ (λk1 (st:(List (List Nat)))=>qu a k1 st) (l1.length-0) 0 l1 >>= λl3 =>
  some l3
 else
  gY a.bg c >>= λx4 =>
  gY x4 b >>= λx5 =>
  bif x5 then
   gY a.dA c >>= λx6 =>
   gY x6 b >>= λx7 =>
   some x7
  else
   gY a.zd.Rows b >>= λx8 =>
   gY x8 c >>= λx9 =>
   cc x9 >>= λr4 =>
   some r4
def sv(a:ai)(b:aU)(r1:ae)(r3:(List (List Bool))×Int×(List (List am)))(r4:Int×(List (List am))×(List (List (List (List Nat)))))(r5:(List (List Bool))×Int×(List (List am)))(k1:Nat)(l1:List Bool):Option (List Bool) :=
 oc (⟨(⟨a.zw,r5.2.1,r5.2.2,a.ak⟩:ai),r1.S.P,b,r3.1,r5.1,r4.2.2⟩:ax) ((k1:Nat):Int) >>= λr8 =>
 cU 1 l1 ([r8]:List Bool) >>= λl3 =>
 some l3
def sx(a:ai)(b:aU)(r1:ae)(r3:(List (List Bool))×Int×(List (List am)))(r4:Int×(List (List am))×(List (List (List (List Nat)))))(r5:(List (List Bool))×Int×(List (List am)))(l2:List Bool)(k2:Nat)(k3:Nat)(l6:List (List (List Nat))):Option (List (List (List Nat))) :=
 l2[k3]? >>= λx4 =>
 nt (⟨(⟨a.zw,r5.2.1,r5.2.2,a.ak⟩:ai),r1.S.P,b,r3.1,r5.1,r4.2.2⟩:ax) ((k2:Nat):Int) ((k3:Nat):Int) x4 >>= λr11 =>
 cU 24 l6 ([r11]:List (List (List Nat))) >>= λl8 =>
 some l8
def sw(a:ai)(b:aU)(r1:ae)(r3:(List (List Bool))×Int×(List (List am)))(r4:Int×(List (List am))×(List (List (List (List Nat)))))(r5:(List (List Bool))×Int×(List (List am)))(r6:Int)(l2:List Bool)(k2:Nat)(l4:List (List (List (List Nat)))):Option (List (List (List (List Nat)))) :=
 cZ (λk3 (st:(List (List (List Nat))))=>sx a b r1 r3 r4 r5 l2 k2 k3 st) ((max 0 (r6).toNat)-0) 0 ([]:List (List (List Nat))) >>= λl7 =>
 cU 24 l4 ([l7]:List (List (List (List Nat)))) >>= λl9 =>
 some l9
def pp(a:ai)(b:aU):Option (aT×Int×(List (List am))) :=
 bp a >>= λr1 =>
 kN (⟨a,r1.S.P,b,([]:List (List Bool)),([]:List (List Bool)),([]:List (List (List (List Nat))))⟩:ax) >>= λr2 =>
 fE (⟨(⟨a.zw,r2.2.1,r2.2.2,a.ak⟩:ai),r1.S.P,b,([]:List (List Bool)),([]:List (List Bool)),([]:List (List (List (List Nat))))⟩:ax) r2.1 >>= λr3 =>
 nu (⟨(⟨a.zw,r3.2.1,r3.2.2,a.ak⟩:ai),r1.S.P,b,r3.1,([]:List (List Bool)),([]:List (List (List (List Nat))))⟩:ax) >>= λr4 =>
 eI (⟨(⟨a.zw,r4.1,r4.2.1,a.ak⟩:ai),r1.S.P,b,r3.1,([]:List (List Bool)),r4.2.2⟩:ax) >>= λr5 =>
 bu (⟨(⟨a.zw,r5.2.1,r5.2.2,a.ak⟩:ai),r1.S.P,b,r3.1,r5.1,r4.2.2⟩:ax) >>= λr6 =>
 nN (max 0 (r6).toNat) >>= λu1 =>
 cZ (λk1 (st:(List Bool))=>sv a b r1 r3 r4 r5 k1 st) ((max 0 (r6).toNat)-0) 0 ([]:List Bool) >>= λl2 =>
 cZ (λk2 (st:(List (List (List (List Nat)))))=>sw a b r1 r3 r4 r5 r6 l2 k2 st) ((max 0 (r6).toNat)-0) 0 ([]:List (List (List (List Nat)))) >>= λl5 =>
 some ((⟨l5,l2⟩:aT),r5.2.1,r5.2.2)
def ut(a:ai)(b:List (List (List Nat))):Option (aT×Int×(List (List am))×(List aL)) :=
 kp a b >>= λr1 =>
 pp (⟨a.zw,r1.2.1,r1.2.2.1,r1.2.2.2⟩:ai) r1.1 >>= λr2 =>
 some (r2.1,r2.2.1,r2.2.2,r1.2.2.2)
def cO(a:aC):Option Int :=
 ee a.zs.T (3:Int) >>= λx1 =>
 some x1
def rA(a:aT)(b:Int)(c:Int)(k1:Nat)(l1:List (List Nat)):Option (List (List Nat)) :=
 a.Rows[k1]? >>= λx2 =>
 jB b (1:Int) >>= λx3 =>
 gY x2 x3 >>= λx4 =>
 gY x4 c >>= λx5 =>
 cU 24 l1 ([x5]:List (List Nat)) >>= λl3 =>
 some l3
def oa(a:aT)(b:Int)(c:Int):Option (List (List Nat)) :=
 cZ (λk1 (st:(List (List Nat)))=>rA a b c k1 st) (a.Rows.length-0) 0 ([]:List (List Nat)) >>= λl2 =>
 some l2
def de(a:aC)(b:Int)(c:Int)(d:Int):Option (List (List Nat)) :=
 cO a >>= λr1 =>
 jX c r1 >>= λx1 =>
 ee x1 d >>= λx2 =>
 oa a.zd b x2 >>= λr2 =>
 some r2
def fx(a:Nat)(b:Nat)(c:List Nat)(k1:Nat)(x1:Nat)(x2:Nat):Option (Nat×Nat) :=
 c[k1]? >>= λx6 =>
 dj a x2 x6 >>= λr4 =>
 mM a x1 r4 >>= λr5 =>
 dj a x2 b >>= λr6 =>
 some (r5,r6)
def jE(a:Nat)(b:Nat)(c:Nat)(d:Nat)(e:List Nat)(f:Nat):Option Bool :=
 dj a c d >>= λr1 =>
 nb a b >>= λr2 =>
 cZ (λk1 (st:Nat×Nat)=>fx a b e k1 st.1 st.2) (e.length-0) 0 (r1,r2) >>= λ(x4,x5) =>
 some (((x4:Nat):Int)==((f:Nat):Int))
def eZ(a:aC)(b:Int)(c:List Nat):Option Bool :=
 jB ((c.length:Nat):Int) (1:Int) >>= λx1 =>
 some (sE b) >>= λx2 =>
 c[0]? >>= λx3 =>
 c[1]? >>= λx4 =>
 oU c (2:Int) x1 >>= λl1 =>
 gY c x1 >>= λx5 =>
 jE a.zs.P x2 x3 x4 l1 x5 >>= λr1 =>
 some r1
def nq(a:aC)(b:Int)(c:Int)(d:Int)(k1:Nat)(l1:List Nat):Option (List Nat) :=
 de a c d ((k1:Nat):Int) >>= λr3 =>
 jB b (1:Int) >>= λx2 =>
 gY r3 x2 >>= λx3 =>
 x3[0]? >>= λx4 =>
 cU 8 l1 ([x4]:List Nat) >>= λl3 =>
 some l3
def jH(a:aC)(b:Int)(c:Int)(d:Int):Option Bool :=
 cO a >>= λr1 =>
 nN (max 0 (r1).toNat) >>= λu1 =>
 cZ (λk1 (st:(List Nat))=>nq a b c d k1 st) ((max 0 (r1).toNat)-0) 0 ([]:List Nat) >>= λl2 =>
 eZ a b l2 >>= λr4 =>
 some r4
def gI(a:aC)(k1:Nat)(k2:Nat)(k3:Nat)(l5:List Nat):Option (List Nat) :=
 jH a ((k1:Nat):Int) ((k2:Nat):Int) ((k3:Nat):Int) >>= λr4 =>
 bif r4 then
  cU 8 l5 ([0]:List Nat) >>= λl7 =>
  some l7
 else
  cU 8 l5 ([1]:List Nat) >>= λl8 =>
  some l8
def gH(a:aC)(b:Int)(k1:Nat)(k2:Nat)(l3:List Nat):Option (List Nat) :=
 nN (max 0 (b).toNat) >>= λu2 =>
 cZ (λk3 (st:(List Nat))=>gI a k1 k2 k3 st) ((max 0 (b).toNat)-0) 0 l3 >>= λl6 =>
 some l6
def gG(a:aC)(b:Int)(k1:Nat)(l1:List (List Nat)):Option (List (List Nat)) :=
 cZ (λk2 (st:(List Nat))=>gH a b k1 k2 st) ((max 1 (a.zs.N+1).toNat)-1) 1 ([]:List Nat) >>= λl4 =>
 cU 24 l1 ([l4]:List (List Nat)) >>= λl9 =>
 some l9
def gJ(a:aC)(b:Int)(k4:Nat)(r7:(List Nat))(k5:Nat)(l12:List bb):Option (List bb) :=
 r7[k5]? >>= λx8 =>
 (
  bif ((x8:Nat):Int) != (0:Int) then
   xz ((k5:Nat):Int) b >>= λx10 =>
   gY a.zd.be x10 >>= λx11 =>
   some (!x11)
  else
   some false
 ) >>= λx9 =>
 bif x9 then
  ee ((k4:Nat):Int) (1:Int) >>= λx12 =>
  xz ((k5:Nat):Int) b >>= λx13 =>
  ee x13 (1:Int) >>= λx14 =>
  Ht ((k5:Nat):Int) b >>= λx15 =>
  cU 24 l12 ([(⟨x12,x14,x15⟩:bb)]:List bb) >>= λl14 =>
  some l14
 else
  some l12
def eW(a:aC)(b:Int)(r5:(List (List Nat))×Int×(List (List am)))(k4:Nat)(l10:List bb):Option (List bb) :=
 r5.1[k4]? >>= λx5 =>
 jX a.zs.N b >>= λx6 =>
 eg x5 x6 >>= λr7 =>
 cZ (λk5 (st:(List bb))=>gJ a b k4 r7 k5 st) (r7.length-0) 0 l10 >>= λl13 =>
 some l13
def fD(a:aC)(b:Int):Option ((List bb)×Int×(List (List am))) :=
 nN (max 1 (a.zs.N+1).toNat) >>= λu1 =>
 cZ (λk1 (st:(List (List Nat)))=>gG a b k1 st) ((max 1 (a.zs.N+1).toNat)-1) 1 ([]:List (List Nat)) >>= λl2 =>
 cu a.zn l2 >>= λr5 =>
 nN (max 0 (a.zs.N).toNat) >>= λu3 =>
 cZ (λk4 (st:(List bb))=>eW a b r5 k4 st) ((max 0 (a.zs.N).toNat)-0) 0 ([]:List bb) >>= λl11 =>
 some (l11,r5.2.1,r5.2.2)
def lT(k1:Nat)(x2:List Nat)(k2:Nat)(l4:List (List (List Nat))):Option (List (List (List Nat))) :=
 l4[k1]? >>= λx4 =>
 cU 24 x4 ([x2]:List (List Nat)) >>= λl6 =>
 some (l4.set k1 l6) >>= λl7 =>
 some l7
def lS(a:List (List Nat))(k1:Nat)(l2:List (List (List Nat))):Option (List (List (List Nat))) :=
 a[k1]? >>= λx2 =>
 cZ (λk2 (st:(List (List (List Nat))))=>lT k1 x2 k2 st) (a.length-0) 0 l2 >>= λl5 =>
 some l5
def lW(k3:Nat)(r6:(List Nat))(k5:Nat)(l15:List (List (List Nat))):Option (List (List (List Nat))) :=
 r6[k5]? >>= λx11 =>
 l15[k3]? >>= λx12 =>
 x12[k5]? >>= λx13 =>
 cU 8 x13 ([x11]:List Nat) >>= λl17 =>
 some (x12.set k5 l17) >>= λl18 =>
 some (l15.set k3 l18) >>= λl19 =>
 some l19
def lV(a:Int)(k3:Nat)(x7:List (List Nat))(k4:Nat)(l13:List (List (List Nat))):Option (List (List (List Nat))) :=
 x7[k4]? >>= λx9 =>
 eg x9 a >>= λr6 =>
 cZ (λk5 (st:(List (List (List Nat))))=>lW k3 r6 k5 st) (r6.length-0) 0 l13 >>= λl16 =>
 some l16
def lU(a:Int)(r3:(List (List (List Nat)))×Int×(List (List am)))(k3:Nat)(l9:List (List (List Nat))):Option (List (List (List Nat))) :=
 o9 24 a a ([]:List Nat) >>= λl11 =>
 l9[k3]? >>= λx6 =>
 some (l9.set k3 l11) >>= λl12 =>
 r3.1[k3]? >>= λx7 =>
 cZ (λk4 (st:(List (List (List Nat))))=>lV a k3 x7 k4 st) (x7.length-0) 0 l12 >>= λl14 =>
 some l14
def lI(a:ai)(b:List (List Nat))(c:Int):Option ((List (List (List Nat)))×Int×(List (List am))) :=
 o9 24 ((b.length:Nat):Int) ((b.length:Nat):Int) ([]:List (List Nat)) >>= λl1 =>
 cZ (λk1 (st:(List (List (List Nat))))=>lS b k1 st) (b.length-0) 0 l1 >>= λl3 =>
 iA a l3 >>= λr3 =>
 o9 24 ((r3.1.length:Nat):Int) ((r3.1.length:Nat):Int) ([]:List (List Nat)) >>= λl8 =>
 cZ (λk3 (st:(List (List (List Nat))))=>lU c r3 k3 st) (r3.1.length-0) 0 l8 >>= λl10 =>
 some (l10,r3.2.1,r3.2.2)
def kC(a:List Nat)(k1:Nat)(l1:List aH):Option (List aH) :=
 a[k1]? >>= λx2 =>
 ee ((k1:Nat):Int) (1:Int) >>= λx3 =>
 some (sE x3) >>= λx4 =>
 cU 16 l1 ([(⟨x4,x2⟩:aH)]:List aH) >>= λl3 =>
 some l3
def eh(a:List Nat):Option (List aH) :=
 cZ (λk1 (st:(List aH))=>kC a k1 st) (a.length-0) 0 ([]:List aH) >>= λl2 =>
 some l2
def mD(a:List aH)(k1:Nat)(l1:List (Int×Bool)):Option (Out (List (Int×Bool)) Bool) :=
 a[k1]? >>= λx6 =>
 bif (j7 l1 ((x6.X:Nat):Int)).getD false then
  some (.fin false)
 else
  some (.go (pY l1 ((x6.X:Nat):Int) true))
def mq(a:List aH)(b:Int)(c:Int):Option Bool :=
 (
  bif decide (b<(0:Int)) then
   some true
  else
   bif decide (c<(0:Int)) then
    some true
   else
    bif decide (c>((a.length:Nat):Int)) then
     some true
    else
     bif decide (b>((a.length:Nat):Int)) then
      some true
     else
      ee b (1:Int) >>= λx2 =>
      jX (2:Int) c >>= λx3 =>
      ee x2 x3 >>= λx4 =>
      some (decide (((a.length:Nat):Int)<x4))
 ) >>= λx1 =>
 bif x1 then
  some false
 else
  qg (λk1 (st:(List (Int×Bool)))=>mD a k1 st) (a.length-0) 0 ([]:List (Int×Bool)) >>= λr1=>ma r1 (λx=>some x) λl2 =>
  some true
def qL(a:List Nat)(b:List (List Nat)):Option Bool :=
 b[0]? >>= λx1 =>
 some (((a.length:Nat):Int) != ((x1.length:Nat):Int))
def cW(a:List (List Nat))(b:List (List Nat))(k1:Nat):Option (Out Unit Int) :=
 a[k1]? >>= λx1 =>
 qL x1 b >>= λr2 =>
 bif r2 then
  some (.fin ((k1:Nat):Int))
 else
  some (.go ())
def dc(a:List (List Nat))(b:List (List Nat)):Option Int :=
 qg (λk1 (st:Unit)=>cW a b k1) (a.length-0) 0 () >>= λr1=>ma r1 (λx=>some x) λ_ =>
 some (-1)
def cV(a:List (List Nat))(b:List (List Nat)):Option Bool :=
 dc a b >>= λr1 =>
 some (decide (r1≥(0:Int)))
def qs(a:List (List Nat)):Option Bool :=
 cV a a >>= λr1 =>
 some (!r1)
def qq(a:List (List Nat)):Option Int :=
 bif ((a.length:Nat):Int)==(0:Int) then
  some ((0:Nat):Int)
 else
  a[0]? >>= λx1 =>
  some ((x1.length:Nat):Int)
def na(a:Nat)(x1:Nat)(x2:Nat)(x3:Nat):Option (Out (Nat×Nat×Nat) Nat) :=
 bif decide (((x2:Nat):Int)>(0:Int)) then
  some (xp x2 1) >>= λx6 =>
  bif ((x6:Nat):Int)==(1:Int) then
   dj a x3 x1 >>= λr2 =>
   dj a x1 x1 >>= λr3 =>
   vo x2 (1:Int) >>= λx7 =>
   some (.go (r3,x7,r2))
  else
   dj a x1 x1 >>= λr4 =>
   vo x2 (1:Int) >>= λx8 =>
   some (.go (r4,x8,x3))
 else
  some (.fin x3)
def uh(a:Nat)(b:Nat)(c:Nat):Option Nat :=
 vM (λ(st:Nat×Nat×Nat)=>na a st.1 st.2.1 st.2.2) big (b,c,1) >>= λx5 =>
 some x5
def kw(a:Nat)(b:Nat):Option (Nat×Int) :=
 bif ((b:Nat):Int)==(0:Int) then
  some (0,((8:Nat):Int))
 else
  some (yY a 2) >>= λx1 =>
  uh a b x1 >>= λr1 =>
  some (r1,((0:Nat):Int))
def nQ(k1:Nat)(l1:List (List Nat)):Option (List (List Nat)) :=
 l1[k1]? >>= λx2 =>
 cz x2 >>= λr3 =>
 some (l1.set k1 r3) >>= λl3 =>
 some l3
def iw(l4:List (List Nat))(k2:Nat)(x6:Int)(x7:Int):Option (Out (Int×Int) Int) :=
 (
  bif decide (x7<((l4.length:Nat):Int)) then
   some (decide (x6<(0:Int)))
  else
   some false
 ) >>= λx10 =>
 bif x10 then
  gY l4 x7 >>= λx11 =>
  x11[k2]? >>= λx12 =>
  bif ((x12:Nat):Int) != (0:Int) then
   ee x7 (1:Int) >>= λx13 =>
   some (.go (x7,x13))
  else
   ee x7 (1:Int) >>= λx14 =>
   some (.go (x6,x14))
 else
  some (.fin x6)
def lD(a:Nat)(l5:List Int)(x18:List Nat)(r8:Nat×Int)(k3:Nat)(l10:List (List Nat)):Option (List (List Nat)) :=
 x18[k3]? >>= λx21 =>
 l10[l5.length]? >>= λx22 =>
 x22[k3]? >>= λx23 =>
 dj a r8.1 x23 >>= λr10 =>
 some (x22.set k3 r10) >>= λl12 =>
 some (l10.set l5.length l12) >>= λl13 =>
 some l13
def lF(a:Nat)(l5:List Int)(k4:Nat)(x25:List Nat)(x28:Nat)(x29:List Nat)(k5:Nat)(l16:List (List Nat)):Option (List (List Nat)) :=
 x29[k5]? >>= λx31 =>
 l16[l5.length]? >>= λx32 =>
 x32[k5]? >>= λx33 =>
 x25[k5]? >>= λx34 =>
 l16[k4]? >>= λx35 =>
 x35[k5]? >>= λx36 =>
 dj a x28 x33 >>= λr13 =>
 mM a x36 r13 >>= λr14 =>
 some (x35.set k5 r14) >>= λl18 =>
 some (l16.set k4 l18) >>= λl19 =>
 some l19
def lE(a:Nat)(l5:List Int)(k2:Nat)(k4:Nat)(l14:List (List Nat)):Option (List (List Nat)) :=
 l14[k4]? >>= λx25 =>
 (
  bif ((k4:Nat):Int)==((l5.length:Nat):Int) then
   some true
  else
   x25[k2]? >>= λx27 =>
   some (((x27:Nat):Int)==(0:Int))
 ) >>= λx26 =>
 bif x26 then
  some l14
 else
  x25[k2]? >>= λx28 =>
  l14[l5.length]? >>= λx29 =>
  nN x29.length >>= λu4 =>
  cZ (λk5 (st:(List (List Nat)))=>lF a l5 k4 x25 x28 x29 k5 st) (x29.length-0) 0 l14 >>= λl17 =>
  some l17
def iv(a:Nat)(k2:Nat)(l4:List (List Nat))(l5:List Int)(x3:Nat):Option ((List (List Nat))×(List Int)×Nat) :=
 vM (λ(st:Int×Int)=>iw l4 k2 st.1 st.2) big ((-1),((l5.length:Nat):Int)) >>= λx9 =>
 bif decide (x9<(0:Int)) then
  some (l4,l5,x3)
 else
  (
   bif x9 != ((l5.length:Nat):Int) then
    l4[l5.length]? >>= λx16 =>
    gY l4 x9 >>= λx17 =>
    some ((l4.set x9.toNat x16).set l5.length x17) >>= λl9 =>
    mL a x3 >>= λr6 =>
    some (l9,r6)
   else
    some (l4,x3)
  ) >>= λ(l8,x15) =>
  l8[l5.length]? >>= λx18 =>
  x18[k2]? >>= λx19 =>
  dj a x15 x19 >>= λr7 =>
  kw a x19 >>= λr8 =>
  nN x18.length >>= λu3 =>
  cZ (λk3 (st:(List (List Nat)))=>lD a l5 x18 r8 k3 st) (x18.length-0) 0 l8 >>= λl11 =>
  cZ (λk4 (st:(List (List Nat)))=>lE a l5 k2 k4 st) (l11.length-0) 0 l11 >>= λl15 =>
  cU 8 l5 ([((k2:Nat):Int)]:List Int) >>= λl20 =>
  some (l15,l20,r7)
def lZ(a:Nat)(b:List (List Nat))(c:Int):Option mi :=
 cc b >>= λr1 =>
 nN r1.length >>= λu1 =>
 cZ (λk1 (st:(List (List Nat)))=>nQ k1 st) (r1.length-0) 0 r1 >>= λl2 =>
 nN (max 0 (c).toNat) >>= λu2 =>
 cZ (λk2 (st:(List (List Nat))×(List Int)×Nat)=>iv a k2 st.1 st.2.1 st.2.2) ((max 0 (c).toNat)-0) 0 (l2,([]:List Int),1) >>= λ(l6,l7,x5) =>
 some (⟨a,l6,l7,x5⟩:mi)
def mo(a:List (List Nat))(b:List Nat)(k1:Nat)(l1:List (List Nat)):Option (List (List Nat)) :=
 a[k1]? >>= λx3 =>
 cz x3 >>= λr4 =>
 b[k1]? >>= λx4 =>
 cU 8 r4 ([x4]:List Nat) >>= λl3 =>
 cU 24 l1 ([l3]:List (List Nat)) >>= λl4 =>
 some l4
def oX(r2:Int)(l5:List (List Nat))(k2:Nat):Option (Out Unit ((List Nat)×Int)) :=
 l5[k2]? >>= λx5 =>
 gY x5 r2 >>= λx6 =>
 bif ((x6:Nat):Int) != (0:Int) then
  some (.fin (([]:List Nat),((6:Nat):Int)))
 else
  some (.go ())
def oY(r2:Int)(r5:mi)(k3:Nat)(l7:List Nat):Option (List Nat) :=
 r5.zpivot[k3]? >>= λx8 =>
 r5.zm[k3]? >>= λx9 =>
 gY x9 r2 >>= λx10 =>
 gY l7 x8 >>= λx11 =>
 some (l7.set x8.toNat x10) >>= λl9 =>
 some l9
def pk(a:Nat)(b:List (List Nat))(c:List Nat):Option ((List Nat)×Int) :=
 (
  qs b >>= λr1 =>
  bif !r1 then
   some true
  else
   some (((b.length:Nat):Int) != ((c.length:Nat):Int))
 ) >>= λx1 =>
 bif x1 then
  some (([]:List Nat),((1:Nat):Int))
 else
  qq b >>= λr2 =>
  cZ (λk1 (st:(List (List Nat)))=>mo b c k1 st) (b.length-0) 0 ([]:List (List Nat)) >>= λl2 =>
  lZ a l2 r2 >>= λr5 =>
  oU r5.zm ((r5.zpivot.length:Nat):Int) ((r5.zm.length:Nat):Int) >>= λl5 =>
  qg (λk2 (st:Unit)=>oX r2 l5 k2) (l5.length-0) 0 () >>= λr6=>ma r6 (λx=>some x) λ_ =>
  o9 8 r2 r2 (0:Nat) >>= λl6 =>
  cZ (λk3 (st:(List Nat))=>oY r2 r5 k3 st) (r5.zpivot.length-0) 0 l6 >>= λl8 =>
  some (l8,((0:Nat):Int))
def fZ(a:Nat)(x2:aH)(k2:Nat)(l5:List Nat)(x5:Nat):Option ((List Nat)×Nat) :=
 cU 8 l5 ([x5]:List Nat) >>= λl7 =>
 dj a x5 x2.X >>= λr3 =>
 some (l7,r3)
def f9(a:Nat)(x2:aH)(k3:Nat)(l8:List Nat)(x8:Nat):Option ((List Nat)×Nat) :=
 mL a x8 >>= λr5 =>
 cU 8 l8 ([r5]:List Nat) >>= λl10 =>
 dj a x8 x2.X >>= λr6 =>
 some (l10,r6)
def iH(a:Nat)(b:List aH)(c:Int)(d:Int)(k1:Nat)(l1:List (List Nat))(l2:List Nat):Option ((List (List Nat))×(List Nat)) :=
 b[k1]? >>= λx2 =>
 ee c d >>= λx3 =>
 ee x3 (1:Int) >>= λx4 =>
 nN (max 0 (x4).toNat) >>= λu1 =>
 cZ (λk2 (st:(List Nat)×Nat)=>fZ a x2 k2 st.1 st.2) ((max 0 (x4).toNat)-0) 0 (([]:List Nat),1) >>= λ(l6,x7) =>
 nN (max 0 (d).toNat) >>= λu2 =>
 cZ (λk3 (st:(List Nat)×Nat)=>f9 a x2 k3 st.1 st.2) ((max 0 (d).toNat)-0) 0 (l6,x2.Y) >>= λ(l9,x10) =>
 cU 24 l1 ([l9]:List (List Nat)) >>= λl11 =>
 cU 8 l2 ([x10]:List Nat) >>= λl12 =>
 some (l11,l12)
def kv(a:Nat)(b:List aH)(c:Int)(d:Int):Option ((List Nat)×(List Nat)×Bool) :=
 cZ (λk1 (st:(List (List Nat))×(List Nat))=>iH a b c d k1 st.1 st.2) (b.length-0) 0 (([]:List (List Nat)),([]:List Nat)) >>= λ(l3,l4) =>
 pk a l3 l4 >>= λr7 =>
 bif r7.2 != (0:Int) then
  some (([]:List Nat),([]:List Nat),false)
 else
  ee c d >>= λx11 =>
  ee x11 (1:Int) >>= λx12 =>
  oU r7.1 (0:Int) x12 >>= λl13 =>
  oU r7.1 x12 ((r7.1.length:Nat):Int) >>= λl14 =>
  cU 8 ([]:List Nat) l14 >>= λl15 =>
  cU 8 l15 ([1]:List Nat) >>= λl16 =>
  some (l13,l16,true)
def p6(a:Nat)(r1:(List Nat))(x6:Int)(r5:Nat)(k1:Nat)(l9:List Nat):Option (List Nat) :=
 r1[k1]? >>= λx11 =>
 ee x6 ((k1:Nat):Int) >>= λx12 =>
 gY l9 x12 >>= λx13 =>
 dj a r5 x11 >>= λr7 =>
 mM a x13 r7 >>= λr8 =>
 some (l9.set x12.toNat r8) >>= λl11 =>
 some l11
def jL(a:Nat)(r1:(List Nat))(r2:Nat×Int)(l2:List Nat)(l3:List Nat):Option (Out ((List Nat)×(List Nat)) ((List Nat)×(List Nat))) :=
 bif decide (((l2.length:Nat):Int)≥((r1.length:Nat):Int)) then
  jB ((l2.length:Nat):Int) ((r1.length:Nat):Int) >>= λx6 =>
  jB ((l2.length:Nat):Int) (1:Int) >>= λx7 =>
  gY l2 x7 >>= λx8 =>
  dj a x8 r2.1 >>= λr5 =>
  gY l3 x6 >>= λx9 =>
  some (l3.set x6.toNat r5) >>= λl8 =>
  cZ (λk1 (st:(List Nat))=>p6 a r1 x6 r5 k1 st) (r1.length-0) 0 l2 >>= λl10 =>
  i9 l10 >>= λr9 =>
  some (.go (r9,l8))
 else
  some (.fin (l2,l3))
def qt(a:Nat)(b:List Nat)(c:List Nat):Option ((List Nat)×(List Nat)×Int) :=
 i9 c >>= λr1 =>
 bif ((r1.length:Nat):Int)==(0:Int) then
  some (([]:List Nat),([]:List Nat),((8:Nat):Int))
 else
  jB ((r1.length:Nat):Int) (1:Int) >>= λx1 =>
  gY r1 x1 >>= λx2 =>
  kw a x2 >>= λr2 =>
  i9 b >>= λr3 =>
  jB ((r3.length:Nat):Int) ((r1.length:Nat):Int) >>= λx3 =>
  ee x3 (1:Int) >>= λx4 =>
  some (max (0:Int) x4) >>= λx5 =>
  o9 8 x5 x5 (0:Nat) >>= λl1 =>
  vM (λ(st:(List Nat)×(List Nat))=>jL a r1 r2 st.1 st.2) big (r3,l1) >>= λ(l6,l7) =>
  i9 l7 >>= λr10 =>
  some (r10,l6,((0:Nat):Int))
def gF(a:Nat)(b:List Nat)(c:List aH)(k1:Nat)(l1:List Int):Option (List Int) :=
 c[k1]? >>= λx2 =>
 i7 a b x2.X >>= λr2 =>
 bif ((r2:Nat):Int) != ((x2.Y:Nat):Int) then
  cU 8 l1 ([((k1:Nat):Int)]:List Int) >>= λl3 =>
  some l3
 else
  some l1
def fy(a:Nat)(b:List Nat)(c:List aH):Option (List Int) :=
 cZ (λk1 (st:(List Int))=>gF a b c k1 st) (c.length-0) 0 ([]:List Int) >>= λl2 =>
 some l2
def en(a:Nat)(b:List aH)(c:Int)(d:Int):Option ((List Nat)×(List Int)×Int) :=
 mq b c d >>= λr1 =>
 bif !r1 then
  some (([]:List Nat),([]:List Int),((1:Nat):Int))
 else
  kv a b c d >>= λr2 =>
  bif !r2.2.2 then
   some (([]:List Nat),([]:List Int),((9:Nat):Int))
  else
   qt a r2.1 r2.2.1 >>= λr3 =>
   (
    bif decide (((r3.2.1.length:Nat):Int)>(0:Int)) then
     some true
    else
     mO r3.1 >>= λr4 =>
     some (decide (r4>c))
   ) >>= λx1 =>
   bif x1 then
    some (([]:List Nat),([]:List Int),((9:Nat):Int))
   else
    fy a r3.1 b >>= λr5 =>
    bif decide (((r5.length:Nat):Int)>d) then
     some (([]:List Nat),([]:List Int),((9:Nat):Int))
    else
     some (r3.1,r5,((0:Nat):Int))
def eH(a:Int):Option (List Nat) :=
 bif decide (a<(0:Int)) then
  none
 else
  jB a (0:Int) >>= λx1 =>
  bif decide (x1>(0:Int)) then
   o9 8 x1 x1 (0:Nat) >>= λl1 =>
   oU l1 (0:Int) (0:Int) >>= λl2 =>
   some l2
  else
   some ([]:List Nat)
def dt(a:List (List Nat))(k1:Nat)(x1:Int):Option Int :=
 a[k1]? >>= λx4 =>
 ee x1 ((x4.length:Nat):Int) >>= λx5 =>
 bif decide (x5<(0:Int)) then
  none
 else
  some x5
def du(a:List (List Nat))(k2:Nat)(l1:List Nat):Option (List Nat) :=
 a[k2]? >>= λx7 =>
 cU 8 l1 x7 >>= λl3 =>
 some l3
def fk(a:List (List Nat)):Option (List Nat) :=
 cZ (λk1 (st:Int)=>dt a k1 st) (a.length-0) 0 ((0:Nat):Int) >>= λx3 =>
 eH x3 >>= λr2 =>
 cZ (λk2 (st:(List Nat))=>du a k2 st) (a.length-0) 0 r2 >>= λl2 =>
 some l2
def lP(a:List (List (List Nat)))(b:List Int)(r1:ae)(k1:Nat)(k2:Nat)(l5:List (List Nat)):Option (List (List Nat)) :=
 a[k2]? >>= λx3 =>
 l5[k1]? >>= λx4 =>
 x3[k1]? >>= λx5 =>
 b[k2]? >>= λx6 =>
 some (sE x6) >>= λx7 =>
 i7 r1.S.P x5 x7 >>= λr4 =>
 cU 8 x4 ([r4]:List Nat) >>= λl7 =>
 some (l5.set k1 l7) >>= λl8 =>
 some l8
def lO(a:List (List (List Nat)))(b:List Int)(r1:ae)(k1:Nat)(l3:List (List Nat)):Option (List (List Nat)) :=
 cZ (λk2 (st:(List (List Nat)))=>lP a b r1 k1 k2 st) (a.length-0) 0 l3 >>= λl6 =>
 some l6
def lR(r1:ae)(k3:Nat)(x9:List (List Nat))(k4:Nat)(l11:List (List (List Nat))):Option (List (List (List Nat))) :=
 x9[k4]? >>= λx11 =>
 eh x11 >>= λr8 =>
 en r1.S.P r8 r1.S.T r1.S.T >>= λr9 =>
 l11[k3]? >>= λx12 =>
 ee r1.S.T (1:Int) >>= λx13 =>
 jB x13 ((r9.1.length:Nat):Int) >>= λx14 =>
 o9 8 x14 x14 (0:Nat) >>= λl13 =>
 fk ([r9.1,l13]:List (List Nat)) >>= λr10 =>
 cU 24 x12 ([r10]:List (List Nat)) >>= λl14 =>
 some (l11.set k3 l14) >>= λl15 =>
 some l15
def lQ(r1:ae)(r5:(List (List (List Nat)))×Int×(List (List am)))(k3:Nat)(l9:List (List (List Nat))):Option (List (List (List Nat))) :=
 r5.1[k3]? >>= λx9 =>
 cZ (λk4 (st:(List (List (List Nat))))=>lR r1 k3 x9 k4 st) (x9.length-0) 0 l9 >>= λl12 =>
 some l12
def iB(a:ai)(b:List (List (List Nat)))(c:List Int):Option ((List (List (List Nat)))×Int×(List (List am))) :=
 bp a >>= λr1 =>
 o9 24 r1.S.N r1.S.N ([]:List (List Nat)) >>= λl1 =>
 bif ((b.length:Nat):Int)==(0:Int) then
  some (l1,a.ah,a.av)
 else
  o9 24 r1.S.N r1.S.N ([]:List Nat) >>= λl2 =>
  cZ (λk1 (st:(List (List Nat)))=>lO b c r1 k1 st) (l2.length-0) 0 l2 >>= λl4 =>
  lI a l4 ((b.length:Nat):Int) >>= λr5 =>
  cZ (λk3 (st:(List (List (List Nat))))=>lQ r1 r5 k3 st) (r5.1.length-0) 0 l1 >>= λl10 =>
  some (l10,r5.2.1,r5.2.2)
def jv(r1:ae)(x1:Int)(k1:Nat)(x2:Bool):Option Bool :=
 r1.af[k1]? >>= λx5 =>
 bif x2 then
  some true
 else
  some (x5==x1)
def ju(r1:ae)(x1:Int):Option (Out Int (Int ⊕ Unit)) :=
 cZ (λk1 (st:Bool)=>jv r1 x1 k1 st) (r1.af.length-0) 0 false >>= λx4 =>
 bif !x4 then
  jB x1 (1:Int) >>= λx6 =>
  some (.fin (.inl x6))
 else
  ee x1 (1:Int) >>= λx7 =>
  some (.go x7)
def iQ(a:aC):Option Int :=
 bp a.zn >>= λr1 =>
 vM (λ(st:Int)=>ju r1 st) big ((1:Nat):Int) >>= λr2=>HI r2 (λx=>some x) λ_ =>
 none
def fi(a:aC)(x2:bb)(k2:Nat)(l6:List (List (List Nat)))(l7:List Int):Option ((List (List (List Nat)))×(List Int)) :=
 de a x2.zdealer x2.zm ((k2:Nat):Int) >>= λr4 =>
 cU 24 l6 ([r4]:List (List (List Nat))) >>= λl10 =>
 cU 8 l7 ([x2.zby]:List Int) >>= λl11 =>
 some (l10,l11)
def dK(a:aC)(b:List bb)(k1:Nat)(l2:List (List (List Nat)))(l3:List Int):Option ((List (List (List Nat)))×(List Int)) :=
 b[k1]? >>= λx2 =>
 cO a >>= λr2 =>
 nN (max 0 (r2).toNat) >>= λu1 =>
 cZ (λk2 (st:(List (List (List Nat)))×(List Int))=>fi a x2 k2 st.1 st.2) ((max 0 (r2).toNat)-0) 0 (l2,l3) >>= λ(l8,l9) =>
 some (l8,l9)
def md(r5:(List (List (List Nat)))×Int×(List (List am)))(r6:Int)(k3:Nat)(r8:Int)(k4:Nat)(l14:List Nat):Option (List Nat) :=
 gY r5.1 r6 >>= λx7 =>
 jX ((k3:Nat):Int) r8 >>= λx8 =>
 ee x8 ((k4:Nat):Int) >>= λx9 =>
 gY x7 x9 >>= λx10 =>
 x10[0]? >>= λx11 =>
 cU 8 l14 ([x11]:List Nat) >>= λl16 =>
 some l16
def jw(a:aC)(b:List bb)(r5:(List (List (List Nat)))×Int×(List (List am)))(r6:Int)(k3:Nat)(l12:List Bool):Option (List Bool) :=
 b[k3]? >>= λx5 =>
 cO (⟨(⟨a.zn.zw,r5.2.1,r5.2.2,a.zn.ak⟩:ai),a.zs,a.zd⟩:aC) >>= λr8 =>
 nN (max 0 (r8).toNat) >>= λu2 =>
 cZ (λk4 (st:(List Nat))=>md r5 r6 k3 r8 k4 st) ((max 0 (r8).toNat)-0) 0 ([]:List Nat) >>= λl15 =>
 eZ (⟨(⟨a.zn.zw,r5.2.1,r5.2.2,a.zn.ak⟩:ai),a.zs,a.zd⟩:aC) x5.zby l15 >>= λr10 =>
 bif !r10 then
  jB x5.zdealer (1:Int) >>= λx12 =>
  gY l12 x12 >>= λx13 =>
  some (l12.set x12.toNat true) >>= λl17 =>
  some l17
 else
  some l12
def iR(a:aC)(b:List bb):Option ((List Bool)×Int×(List (List am))) :=
 o9 1 a.zs.N a.zs.N (false:Bool) >>= λl1 =>
 cZ (λk1 (st:(List (List (List Nat)))×(List Int))=>dK a b k1 st.1 st.2) (b.length-0) 0 (([]:List (List (List Nat))),([]:List Int)) >>= λ(l4,l5) =>
 iB a.zn l4 l5 >>= λr5 =>
 iQ (⟨(⟨a.zn.zw,r5.2.1,r5.2.2,a.zn.ak⟩:ai),a.zs,a.zd⟩:aC) >>= λr6 =>
 cZ (λk3 (st:(List Bool))=>jw a b r5 r6 k3 st) (b.length-0) 0 (jd l1 a.zd.be) >>= λl13 =>
 some (l13,r5.2.1,r5.2.2)
def me(a:aC)(k1:Nat)(l1:List (List Nat)):Option (List (List Nat)) :=
 ee a.zs.T (1:Int) >>= λx2 =>
 o9 8 x2 x2 (0:Nat) >>= λl3 =>
 cU 24 l1 ([l3]:List (List Nat)) >>= λl4 =>
 some l4
def iS(a:aC):Option (List (List Nat)) :=
 nN (max 0 (a.zs.N).toNat) >>= λu1 =>
 cZ (λk1 (st:(List (List Nat)))=>me a k1 st) ((max 0 (a.zs.N).toNat)-0) 0 ([]:List (List Nat)) >>= λl2 =>
 some l2
def gm(a:ai)(b:Int)(r1:ae)(k1:Nat)(l3:List aL)(l4:List (List (List (List Nat))))(l5:List Bool)(l6:List (List (List Nat))):Option ((List aL)×(List (List (List (List Nat))))×(List Bool)×(List (List (List Nat)))) :=
 jg (⟨(⟨a.zw,a.ah,a.av,l3⟩:ai),r1.S,(⟨l4,l5⟩:aT)⟩:aC) ((k1:Nat):Int) b >>= λr3 =>
 cU 24 l6 ([r3.1]:List (List (List Nat))) >>= λl11 =>
 some (r3.2,l4,l5,l11)
def qb(a:ai)(r1:ae)(r4:aT×Int×(List (List am))×(List aL))(r6:(List Bool)×Int×(List (List am)))(k2:Nat)(k3:Nat)(l14:List bo):Option (List bo) :=
 de (⟨(⟨a.zw,r6.2.1,r6.2.2,r4.2.2.2⟩:ai),r1.S,r4.1⟩:aC) ((k2:Nat):Int) ((k3:Nat):Int) ((0:Nat):Int) >>= λr9 =>
 de (⟨(⟨a.zw,r6.2.1,r6.2.2,r4.2.2.2⟩:ai),r1.S,r4.1⟩:aC) ((k2:Nat):Int) ((k3:Nat):Int) ((1:Nat):Int) >>= λr10 =>
 cO (⟨(⟨a.zw,r6.2.1,r6.2.2,r4.2.2.2⟩:ai),r1.S,r4.1⟩:aC) >>= λr11 =>
 jB r11 (1:Int) >>= λx4 =>
 de (⟨(⟨a.zw,r6.2.1,r6.2.2,r4.2.2.2⟩:ai),r1.S,r4.1⟩:aC) ((k2:Nat):Int) ((k3:Nat):Int) x4 >>= λr12 =>
 jB ((k2:Nat):Int) (1:Int) >>= λx5 =>
 gY r6.1 x5 >>= λx6 =>
 bif x6 then
  iS (⟨(⟨a.zw,r6.2.1,r6.2.2,r4.2.2.2⟩:ai),r1.S,r4.1⟩:aC) >>= λr13 =>
  cU 72 l14 ([(⟨r13,r13,r13⟩:bo)]:List bo) >>= λl16 =>
  some l16
 else
  cU 72 l14 ([(⟨r9,r10,r12⟩:bo)]:List bo) >>= λl17 =>
  some l17
def mF(a:ai)(b:Int)(r1:ae)(r4:aT×Int×(List (List am))×(List aL))(r6:(List Bool)×Int×(List (List am)))(k2:Nat)(l12:List (List bo)):Option (List (List bo)) :=
 nN (max 0 (b).toNat) >>= λu2 =>
 cZ (λk3 (st:(List bo))=>qb a r1 r4 r6 k2 k3 st) ((max 0 (b).toNat)-0) 0 ([]:List bo) >>= λl15 =>
 cU 24 l12 ([l15]:List (List bo)) >>= λl18 =>
 some l18
def fP(a:ai)(b:Int):Option ((List (List bo))×(List Bool)×Int×(List (List am))×(List aL)) :=
 bp a >>= λr1 =>
 bif b==(0:Int) then
  o9 24 r1.S.N r1.S.N (([]:List bo):List bo) >>= λl1 =>
  o9 1 r1.S.N r1.S.N (false:Bool) >>= λl2 =>
  some (l1,l2,a.ah,a.av,a.ak)
 else
  nN (max 1 (r1.S.N+1).toNat) >>= λu1 =>
  cZ (λk1 (st:(List aL)×(List (List (List (List Nat))))×(List Bool)×(List (List (List Nat))))=>gm a b r1 k1 st.1 st.2.1 st.2.2.1 st.2.2.2) ((max 1 (r1.S.N+1).toNat)-1) 1 (a.ak,([]:List (List (List (List Nat)))),([]:List Bool),([]:List (List (List Nat)))) >>= λ(l7,l8,l9,l10) =>
  ut (⟨a.zw,a.ah,a.av,l7⟩:ai) l10 >>= λr4 =>
  fD (⟨(⟨a.zw,r4.2.1,r4.2.2.1,r4.2.2.2⟩:ai),r1.S,r4.1⟩:aC) b >>= λr5 =>
  iR (⟨(⟨a.zw,r5.2.1,r5.2.2,r4.2.2.2⟩:ai),r1.S,r4.1⟩:aC) r5.1 >>= λr6 =>
  cZ (λk2 (st:(List (List bo)))=>mF a b r1 r4 r6 k2 st) ((max 1 (r1.S.N+1).toNat)-1) 1 ([]:List (List bo)) >>= λl13 =>
  some (l13,r6.1,r6.2.1,r6.2.2,r4.2.2.2)
def nE(a:Nat)(x1:List Nat)(k2:Nat):Option (Out Unit Bool) :=
 x1[k2]? >>= λx2 =>
 bif decide (((x2:Nat):Int)≥((a:Nat):Int)) then
  some (.fin false)
 else
  some (.go ())
def nD(a:Nat)(b:List (List Nat))(c:Int)(k1:Nat):Option (Out Unit Bool) :=
 b[k1]? >>= λx1 =>
 bif decide (((x1.length:Nat):Int)>c) then
  some (.fin false)
 else
  qg (λk2 (st:Unit)=>nE a x1 k2) (x1.length-0) 0 () >>= λr2=>ma r2 (λx=>some (.fin x)) λ_ =>
  some (.go ())
def mC(a:Nat)(b:List (List Nat))(c:Int):Option Bool :=
 qg (λk1 (st:Unit)=>nD a b c k1) (b.length-0) 0 () >>= λr1=>ma r1 (λx=>some x) λ_ =>
 some true
def ow(a:aF)(b:List (List Nat))(k1:Nat):Option (Out Unit Bool) :=
 b[k1]? >>= λx1 =>
 ee a.T (1:Int) >>= λx2 =>
 bif ((x1.length:Nat):Int) != x2 then
  some (.fin false)
 else
  some (.go ())
def gT(a:aF)(b:List (List Nat)):Option Bool :=
 bif ((b.length:Nat):Int) != a.N then
  some false
 else
  nN (max 0 (a.N).toNat) >>= λu1 =>
  qg (λk1 (st:Unit)=>ow a b k1) ((max 0 (a.N).toNat)-0) 0 () >>= λr1=>ma r1 (λx=>some x) λ_ =>
  ee a.T (1:Int) >>= λx3 =>
  mC a.P b x3 >>= λr2 =>
  some r2
def ov(a:aF)(x1:List bo)(k2:Nat):Option (Out Unit Bool) :=
 x1[k2]? >>= λx2 =>
 gT a x2.A >>= λr3 =>
 bif !r3 then
  some (.fin false)
 else
  gT a x2.B >>= λr4 =>
  bif !r4 then
   some (.fin false)
  else
   gT a x2.C >>= λr5 =>
   bif !r5 then
    some (.fin false)
   else
    some (.go ())
def ou(a:aF)(b:List (List bo))(c:Int)(k1:Nat):Option (Out Unit Bool) :=
 b[k1]? >>= λx1 =>
 bif ((x1.length:Nat):Int) != c then
  some (.fin false)
 else
  nN (max 0 (c).toNat) >>= λu2 =>
  qg (λk2 (st:Unit)=>ov a x1 k2) ((max 0 (c).toNat)-0) 0 () >>= λr2=>ma r2 (λx=>some (.fin x)) λ_ =>
  some (.go ())
def gS(a:aF)(b:List (List bo))(c:Int):Option Bool :=
 bif ((b.length:Nat):Int) != a.N then
  some false
 else
  nN (max 0 (a.N).toNat) >>= λu1 =>
  qg (λk1 (st:Unit)=>ou a b c k1) ((max 0 (a.N).toNat)-0) 0 () >>= λr1=>ma r1 (λx=>some x) λ_ =>
  some true
def iF(a:ai):Option Int :=
 some a.ah
def mB(a:List Int)(b:Int)(k1:Nat):Option (Out Unit Bool) :=
 a[k1]? >>= λx1 =>
 bif x1==b then
  some (.fin true)
 else
  some (.go ())
def mp(a:List Int)(b:Int):Option Bool :=
 qg (λk1 (st:Unit)=>mB a b k1) (a.length-0) 0 () >>= λr1=>ma r1 (λx=>some x) λ_ =>
 some false
def gy(a:List Int)(k1:Nat)(l1:List Int):Option (List Int) :=
 mp a ((k1:Nat):Int) >>= λr2 =>
 bif !r2 then
  cU 8 l1 ([((k1:Nat):Int)]:List Int) >>= λl3 =>
  some l3
 else
  some l1
def fw(a:aF)(b:List Int):Option (List Int) :=
 nN (max 1 (a.N+1).toNat) >>= λu1 =>
 cZ (λk1 (st:(List Int))=>gy b k1 st) ((max 1 (a.N+1).toNat)-1) 1 ([]:List Int) >>= λl2 =>
 some l2
def nU(a:List aH)(k1:Nat)(l1:List (Int×Bool)):Option (Out (List (Int×Bool)) Bool) :=
 a[k1]? >>= λx2 =>
 bif (j7 l1 ((x2.X:Nat):Int)).getD false then
  some (.fin false)
 else
  some (.go (pY l1 ((x2.X:Nat):Int) true))
def n3(a:List aH):Option Bool :=
 qg (λk1 (st:(List (Int×Bool)))=>nU a k1 st) (a.length-0) 0 (pY ([]:List (Int×Bool)) (0:Int) true) >>= λr1=>ma r1 (λx=>some x) λl2 =>
 some true
def qK(a:Nat):Option Int :=
 ml a >>= λr1 =>
 some r1
def lx(a:Nat):Option Bool :=
 some (((a:Nat):Int) != ((a:Nat):Int))
def mj(a:Nat)(b:Nat):Option Bool :=
 lx a >>= λr1 =>
 bif r1 then
  lx b >>= λr2 =>
  bif !r2 then
   some true
  else
   some (decide (((a:Nat):Int)<((b:Nat):Int)))
 else
  some (decide (((a:Nat):Int)<((b:Nat):Int)))
def cM(a:Int)(l4:List Nat)(x3:Int):Option (Out ((List Nat)×Int) (List Nat)) :=
 (
  bif decide (x3>a) then
   gY l4 x3 >>= λx5 =>
   jB x3 (1:Int) >>= λx6 =>
   gY l4 x6 >>= λx7 =>
   mj x5 x7 >>= λr3 =>
   some r3
  else
   some false
 ) >>= λx4 =>
 bif x4 then
  jB x3 (1:Int) >>= λx8 =>
  gY l4 x8 >>= λx9 =>
  gY l4 x3 >>= λx10 =>
  some (l4.set x3.toNat x9) >>= λl7 =>
  gY l7 x8 >>= λx11 =>
  some (l7.set x8.toNat x10) >>= λl8 =>
  some (.go (l8,x8))
 else
  some (.fin l4)
def cL(a:Int)(b:Int)(l1:List Nat)(x2:Int):Option (Out ((List Nat)×Int) (List Nat)) :=
 bif decide (x2<b) then
  vM (λ(st:(List Nat)×Int)=>cM a st.1 st.2) big (l1,x2) >>= λl6 =>
  ee x2 (1:Int) >>= λx12 =>
  some (.go (l6,x12))
 else
  some (.fin l1)
def dD(a:List Nat)(b:Int)(c:Int):Option (List Nat) :=
 ee b (1:Int) >>= λx1 =>
 vM (λ(st:(List Nat)×Int)=>cL b c st.1 st.2) big (a,x1) >>= λl3 =>
 some l3
def dY(a:List Nat)(b:Int)(c:Int):Option (Out Unit ((List Nat) ⊕ Unit)) :=
 jB c b >>= λx1 =>
 bif decide (x1≤(12:Int)) then
  dD a b c >>= λr2 =>
  some (.fin (.inl r2))
 else
  none
def gZ(a:List Nat)(b:Int)(c:Int)(d:Int):Option (List Nat) :=
 vM (λ(st:Unit)=>dY a b c) big () >>= λr1=>HI r1 (λx=>some x) λ_ =>
 none
def fC(a:List Nat):Option (List Nat) :=
 some (sE ((a.length:Nat):Int)) >>= λx1 =>
 qK x1 >>= λr1 =>
 gZ a ((0:Nat):Int) ((a.length:Nat):Int) r1 >>= λr2 =>
 some r2
def fB(a:List Nat)(x1:Int):Option (Out Int Unit) :=
 bif decide (x1<((a.length:Nat):Int)) then
  gY a x1 >>= λx2 =>
  jB x1 (1:Int) >>= λx3 =>
  gY a x3 >>= λx4 =>
  bif ((x2:Nat):Int)==((x4:Nat):Int) then
   none
  else
   ee x1 (1:Int) >>= λx5 =>
   some (.go x5)
 else
  some (.fin ())
def eV(a:List Nat):Option (List Nat) :=
 bif decide (((a.length:Nat):Int)<(2:Int)) then
  some a
 else
  vM (λ(st:Int)=>fB a st) big ((1:Nat):Int) >>= λ_ =>
  some a
def kb(a:List Nat):Option Bool :=
 cz a >>= λr1 =>
 fC r1 >>= λr2 =>
 eV r2 >>= λr3 =>
 some (((r3.length:Nat):Int)==((a.length:Nat):Int))
def jl(a:Nat)(b:Nat)(c:List Nat)(d:Nat)(e:aH):Option ((List Nat)×Nat) :=
 mL b a >>= λr1 =>
 tA b c ([r1,1]:List Nat) >>= λr2 =>
 mM b e.X a >>= λr3 =>
 dj b d r3 >>= λr4 =>
 some (r2,r4)
def bV(a:List Nat)(b:Int)(c:Nat)(d:aH)(k1:Nat)(l1:List Nat)(x1:Nat):Option ((List Nat)×Nat) :=
 a[k1]? >>= λx4 =>
 bif ((k1:Nat):Int) != b then
  jl x4 c l1 x1 d >>= λr2 =>
  some (r2.1,r2.2)
 else
  some (l1,x1)
def cN(a:List Nat)(b:Int)(c:Nat)(d:List Nat)(e:Nat)(f:aH):Option ((List Nat)×Nat) :=
 cZ (λk1 (st:(List Nat)×Nat)=>bV a b c f k1 st.1 st.2) (a.length-0) 0 (d,e) >>= λ(l2,x3) =>
 some (l2,x3)
def lC(a:Nat)(b:Nat)(c:Nat):Option Nat :=
 kw a c >>= λr1 =>
 dj a b r1.1 >>= λr2 =>
 some r2
def qM(a:Nat)(b:Nat)(c:List Nat)(k1:Nat)(l2:List Nat):Option (List Nat) :=
 c[k1]? >>= λx2 =>
 dj a b x2 >>= λr2 =>
 l2[k1]? >>= λx3 =>
 some (l2.set k1 r2) >>= λl4 =>
 some l4
def se(a:Nat)(b:Nat)(c:List Nat):Option (List Nat) :=
 o9 8 ((c.length:Nat):Int) ((c.length:Nat):Int) (0:Nat) >>= λl1 =>
 cZ (λk1 (st:(List Nat))=>qM a b c k1 st) (c.length-0) 0 l1 >>= λl3 =>
 i9 l3 >>= λr3 =>
 some r3
def tv(a:Nat)(b:List Nat)(k1:Nat)(l1:List Nat):Option (List Nat) :=
 b[k1]? >>= λx2 =>
 gt (⟨a,l1⟩:pF) ((k1:Nat):Int) x2 >>= λr2 =>
 some r2
def tz(a:Nat)(b:List Nat)(k2:Nat)(l3:List Nat):Option (List Nat) :=
 b[k2]? >>= λx4 =>
 gt (⟨a,l3⟩:pF) ((k2:Nat):Int) x4 >>= λr4 =>
 some r4
def vQ(a:Nat)(b:List Nat)(c:List Nat):Option (List Nat) :=
 cZ (λk1 (st:(List Nat))=>tv a b k1 st) (b.length-0) 0 ([]:List Nat) >>= λl2 =>
 cZ (λk2 (st:(List Nat))=>tz a c k2 st) (c.length-0) 0 l2 >>= λl4 =>
 i9 l4 >>= λr5 =>
 some r5
def i4(a:List aH)(k1:Nat)(l1:List Nat):Option (List Nat) :=
 a[k1]? >>= λx2 =>
 cU 8 l1 ([x2.X]:List Nat) >>= λl3 =>
 some l3
def i5(a:Nat)(b:List aH)(l2:List Nat)(k2:Nat)(l4:List Nat):Option (List Nat) :=
 b[k2]? >>= λx4 =>
 cN l2 ((k2:Nat):Int) a ([1]:List Nat) 1 x4 >>= λr4 =>
 lC a x4.Y r4.2 >>= λr5 =>
 se a r5 r4.1 >>= λr6 =>
 vQ a l4 r6 >>= λr7 =>
 some r7
def ie(a:Nat)(b:List aH):Option ((List Nat)×Int) :=
 cZ (λk1 (st:(List Nat))=>i4 b k1 st) (b.length-0) 0 ([]:List Nat) >>= λl2 =>
 kb l2 >>= λr2 =>
 bif !r2 then
  some (([]:List Nat),((1:Nat):Int))
 else
  cZ (λk2 (st:(List Nat))=>i5 a b l2 k2 st) (b.length-0) 0 ([]:List Nat) >>= λl5 =>
  i9 l5 >>= λr8 =>
  some (r8,((0:Nat):Int))
def lG(a:List Nat)(b:Int):Option Nat :=
 bif decide (b<(0:Int)) then
  some 0
 else
  bif decide (b≥((a.length:Nat):Int)) then
   some 0
  else
   gY a b >>= λx1 =>
   some x1
def km(a:Nat)(b:Int)(c:List aH):Option (Nat×Int) :=
 (
  bif decide (b<(0:Int)) then
   some true
  else
   n3 c >>= λr1 =>
   bif !r1 then
    some true
   else
    some (decide (((c.length:Nat):Int)≤b))
 ) >>= λx1 =>
 bif x1 then
  some (0,((1:Nat):Int))
 else
  ie a c >>= λr2 =>
  bif r2.2 != (0:Int) then
   some (0,r2.2)
  else
   mO r2.1 >>= λr3 =>
   bif decide (r3>b) then
    some (0,((9:Nat):Int))
   else
    lG r2.1 ((0:Nat):Int) >>= λr4 =>
    some (r4,((0:Nat):Int))
def ni(a:List (List Nat))(r1:(List Int))(k1:Nat)(l1:List aH):Option (List aH) :=
 r1[k1]? >>= λx2 =>
 some (sE x2) >>= λx3 =>
 jB x2 (1:Int) >>= λx4 =>
 gY a x4 >>= λx5 =>
 x5[0]? >>= λx6 =>
 cU 16 l1 ([(⟨x3,x6⟩:aH)]:List aH) >>= λl3 =>
 some l3
def dL(a:ae)(b:List (List Nat)):Option (Nat×Int) :=
 fw a.S a.af >>= λr1 =>
 cZ (λk1 (st:(List aH))=>ni b r1 k1 st) (r1.length-0) 0 ([]:List aH) >>= λl2 =>
 km a.S.P a.S.T l2 >>= λr3 =>
 some (r3.1,r3.2)
def mz  : Option Bool :=
 o9 8 (9:Int) (9:Int) (0:Nat) >>= λl1 =>
 k9 (⟨(⟨31,((4:Nat):Int),((1:Nat):Int)⟩:aF),([]:List Int),([]:List aD),([([5,3,7,2,4,1,2,3,6]:List Nat),l1,l1,l1]:List (List Nat))⟩:ae) >>= λr1 =>
 C3 r1 (λr2 =>
  some false)
 (λr3 =>
  qc (⟨31,((4:Nat):Int),((1:Nat):Int)⟩:aF) ((2:Nat):Int) >>= λr4 =>
  bif r4 != (18:Int) then
   some false
  else
   fP r3 ((1:Nat):Int) >>= λr5 =>
   (
    gS (⟨31,((4:Nat):Int),((1:Nat):Int)⟩:aF) r5.1 ((1:Nat):Int) >>= λr6 =>
    bif !r6 then
     some true
    else
     bif ((r5.2.1.length:Nat):Int) != (4:Int) then
      some true
     else
      iF (⟨r3.zw,r5.2.2.1,r5.2.2.2.1,r5.2.2.2.2⟩:ai) >>= λr7 =>
      bif r7 != (8:Int) then
       some true
      else
       fW (⟨r3.zw,r5.2.2.1,r5.2.2.2.1,r5.2.2.2.2⟩:ai) ((1:Nat):Int) >>= λr8 =>
       r5.2.2.2.2[r8]? >>= λx2 =>
       jG x2 >>= λr9 =>
       some (r9 != (0:Int))
   ) >>= λx1 =>
   bif x1 then
    some false
   else
    r5.1[0]? >>= λx3 =>
    x3[0]? >>= λx4 =>
    dL (⟨(⟨31,((4:Nat):Int),((1:Nat):Int)⟩:aF),([]:List Int),([]:List aD),([([5,3,7,2,4,1,2,3,6]:List Nat),l1,l1,l1]:List (List Nat))⟩:ae) x4.A >>= λr10 =>
    dL (⟨(⟨31,((4:Nat):Int),((1:Nat):Int)⟩:aF),([]:List Int),([]:List aD),([([5,3,7,2,4,1,2,3,6]:List Nat),l1,l1,l1]:List (List Nat))⟩:ae) x4.B >>= λr11 =>
    dL (⟨(⟨31,((4:Nat):Int),((1:Nat):Int)⟩:aF),([]:List Int),([]:List aD),([([5,3,7,2,4,1,2,3,6]:List Nat),l1,l1,l1]:List (List Nat))⟩:ae) x4.C >>= λr12 =>
    bif ((r10.1:Nat):Int)==(5:Int) then
     bif ((r11.1:Nat):Int)==(7:Int) then
      bif ((r12.1:Nat):Int)==(4:Int) then
       bif r10.2==(0:Int) then
        bif r11.2==(0:Int) then
         bif r12.2==(0:Int) then
          r5.2.1[0]? >>= λx5 =>
          bif !x5 then
           r5.2.1[3]? >>= λx6 =>
           some (!x6)
          else
           some false
         else
          some false
        else
         some false
       else
        some false
      else
       some false
     else
      some false
    else
     some false)
def nj  : Option (List Int) :=
 some ([((5:Nat):Int),((7:Nat):Int),((13:Nat):Int),((17:Nat):Int),((19:Nat):Int),((31:Nat):Int),((61:Nat):Int)]:List Int)
def gu(a:Nat)(r1:(List Int))(k1:Nat):Option (Out Unit Int) :=
 r1[k1]? >>= λx1 =>
 some (sE x1) >>= λx2 =>
 C1 1 ((x2:Nat):Int) >>= λx3 =>
 some (yY x3 1) >>= λx4 =>
 bif ((a:Nat):Int)==((x4:Nat):Int) then
  some (.fin x1)
 else
  some (.go ())
def ky(a:Nat):Option Int :=
 nj >>= λr1 =>
 qg (λk1 (st:Unit)=>gu a r1 k1) (r1.length-0) 0 () >>= λr2=>ma r2 (λx=>some x) λ_ =>
 some ((0:Nat):Int)
def ij(a:Nat):Option Bool :=
 ky a >>= λr1 =>
 some (decide (r1>(0:Int)))
def iG(a:aF):Option Bool :=
 ij a.P >>= λr1 =>
 bif r1 then
  bif decide (a.N≥(4:Int)) then
   bif decide (a.N≤(13:Int)) then
    some (sE a.N) >>= λx1 =>
    bif decide (((x1:Nat):Int)<((a.P:Nat):Int)) then
     bif decide (a.T≥(1:Int)) then
      bif decide (a.T<a.N) then
       jX (3:Int) a.T >>= λx2 =>
       some (decide (x2<a.N))
      else
       some false
     else
      some false
    else
     some false
   else
    some false
  else
   some false
 else
  some false
def fX(a:aF)(b:List Int)(k1:Nat):Option (Out Unit Bool) :=
 b[k1]? >>= λx2 =>
 bif decide (x2<(1:Int)) then
  some (.fin false)
 else
  bif decide (x2>a.N) then
   some (.fin false)
  else
   bif decide (((k1:Nat):Int)>(0:Int)) then
    jB ((k1:Nat):Int) (1:Int) >>= λx3 =>
    gY b x3 >>= λx4 =>
    bif decide (x2≤x4) then
     some (.fin false)
    else
     some (.go ())
   else
    some (.go ())
def ft(a:aF)(b:List Int):Option Bool :=
 (
  iG a >>= λr1 =>
  bif !r1 then
   some true
  else
   some (decide (((b.length:Nat):Int)>a.T))
 ) >>= λx1 =>
 bif x1 then
  some false
 else
  qg (λk1 (st:Unit)=>fX a b k1) (b.length-0) 0 () >>= λr2=>ma r2 (λx=>some x) λ_ =>
  some true
def il(a:aF)(b:aD):Option Bool :=
 bif decide (b.Round≥(0:Int)) then
  bif decide (b.At≥(0:Int)) then
   bif decide (b.bG≥(0:Int)) then
    bif decide (b.From≥(1:Int)) then
     bif decide (b.From≤a.N) then
      bif decide (b.To≥(0:Int)) then
       bif decide (b.To≤a.N) then
        bif decide (b.Kind≥(1:Int)) then
         bif decide (b.Kind≤(4:Int)) then
          bif decide (b.Of≥(0:Int)) then
           bif decide (b.Of≤a.N) then
            bif b.Kind != (3:Int) then
             some true
            else
             some (decide (b.Of≥(1:Int)))
           else
            some false
          else
           some false
         else
          some false
        else
         some false
       else
        some false
      else
       some false
     else
      some false
    else
     some false
   else
    some false
  else
   some false
 else
  some false
def kz(a:Nat)(b:List Nat)(k1:Nat):Option (Out Unit Bool) :=
 b[k1]? >>= λx1 =>
 bif decide (((x1:Nat):Int)≥((a:Nat):Int)) then
  some (.fin false)
 else
  some (.go ())
def ki(a:Nat)(b:List Nat):Option Bool :=
 qg (λk1 (st:Unit)=>kz a b k1) (b.length-0) 0 () >>= λr1=>ma r1 (λx=>some x) λ_ =>
 some true
def gz(a:ae)(k1:Nat):Option (Out Unit Bool) :=
 a.aa[k1]? >>= λx2 =>
 il a.S x2 >>= λr4 =>
 bif !r4 then
  some (.fin false)
 else
  some (.go ())
def gE(a:ae)(k2:Nat):Option (Out Unit Bool) :=
 a.ay[k2]? >>= λx3 =>
 ki a.S.P x3 >>= λr6 =>
 bif !r6 then
  some (.fin false)
 else
  some (.go ())
def dB(a:ae):Option Bool :=
 (
  iG a.S >>= λr1 =>
  bif !r1 then
   some true
  else
   ft a.S a.af >>= λr2 =>
   bif !r2 then
    some true
   else
    some (((a.ay.length:Nat):Int) != a.S.N)
 ) >>= λx1 =>
 bif x1 then
  some false
 else
  qg (λk1 (st:Unit)=>gz a k1) (a.aa.length-0) 0 () >>= λr3=>ma r3 (λx=>some x) λ_ =>
  qg (λk2 (st:Unit)=>gE a k2) (a.ay.length-0) 0 () >>= λr5=>ma r5 (λx=>some x) λ_ =>
  some true
def kA(a:ae)(b:Int)(k1:Nat):Option (Out Unit Bool) :=
 a.ay[k1]? >>= λx2 =>
 bif decide (((x2.length:Nat):Int)>b) then
  some (.fin false)
 else
  some (.go ())
def kj(a:ae)(b:Int)(c:Int)(d:Int):Option Bool :=
 (
  bif decide (a.S.N>b) then
   some true
  else
   bif decide (((a.aa.length:Nat):Int)>c) then
    some true
   else
    some (decide (((a.ay.length:Nat):Int)>b))
 ) >>= λx1 =>
 bif x1 then
  some false
 else
  qg (λk1 (st:Unit)=>kA a d k1) (a.ay.length-0) 0 () >>= λr1=>ma r1 (λx=>some x) λ_ =>
  dB a >>= λr2 =>
  some r2
def li(a:aF)(b:Int):Option Int :=
 ee a.T (1:Int) >>= λx1 =>
 jX (2:Int) x1 >>= λx2 =>
 jX a.T a.T >>= λx3 =>
 ee x2 x3 >>= λx4 =>
 ee a.T (3:Int) >>= λx5 =>
 jX x5 a.T >>= λx6 =>
 jX x6 x1 >>= λx7 =>
 xz x7 (2:Int) >>= λx8 =>
 ee x4 x8 >>= λx9 =>
 jX b x9 >>= λx10 =>
 some x10
def lh(a:ae)(b:Int)(k1:Nat):Option (Out Unit Bool) :=
 a.ay[k1]? >>= λx1 =>
 bif decide (((x1.length:Nat):Int)<b) then
  some (.fin false)
 else
  some (.go ())
def nk(a:ae)(b:Int):Option Bool :=
 qg (λk1 (st:Unit)=>lh a b k1) (a.ay.length-0) 0 () >>= λr1=>ma r1 (λx=>some x) λ_ =>
 some true
def kL(a:ae)(b:Nat)(c:Int)(d:Nat):Option Bool :=
 bif decide (((b:Nat):Int)≤((d:Nat):Int)) then
  kj a c ((8:Nat):Int) ((120:Nat):Int) >>= λr1 =>
  bif r1 then
   some (KQ ((b:Nat):Int)) >>= λx1 =>
   li a.S x1 >>= λr2 =>
   nk a r2 >>= λr3 =>
   some r3
  else
   some false
 else
  some false
def fL(a:Nat)(x1:Nat)(x2:Nat)(x3:Nat):Option (Out (Nat×Nat×Nat) Nat) :=
 bif decide (((x2:Nat):Int)>(0:Int)) then
  xF x2 2 >>= λx6 =>
  bif ((x6:Nat):Int)==(1:Int) then
   some (og x3 x1) >>= λx7 =>
   xF x7 a >>= λx8 =>
   some (og x1 x1) >>= λx9 =>
   xF x9 a >>= λx10 =>
   Ep x2 2 >>= λx11 =>
   some (.go (x10,x11,x8))
  else
   some (og x1 x1) >>= λx12 =>
   xF x12 a >>= λx13 =>
   Ep x2 2 >>= λx14 =>
   some (.go (x13,x14,x3))
 else
  some (.fin x3)
def jM(a:Nat)(b:Nat)(c:Nat):Option Nat :=
 vM (λ(st:Nat×Nat×Nat)=>fL a st.1 st.2.1 st.2.2) big (b,c,0) >>= λx5 =>
 some x5
def nR(a:Nat)(b:Nat)(c:Nat):Option Nat :=
 some (og b c) >>= λx1 =>
 xF x1 a >>= λx2 =>
 some x2
def mP(a:List Bool)(b:List Bool)(k1:Nat):Option (Out Unit Bool) :=
 a[k1]? >>= λx1 =>
 b[k1]? >>= λx2 =>
 bif (x1 != x2) then
  some (.fin false)
 else
  some (.go ())
def jf(a:List Bool)(b:List Bool):Option Bool :=
 bif ((a.length:Nat):Int) != ((b.length:Nat):Int) then
  some false
 else
  qg (λk1 (st:Unit)=>mP a b k1) (a.length-0) 0 () >>= λr1=>ma r1 (λx=>some x) λ_ =>
  some true
def je(a:ae)(r12:(List (List bo))×(List Bool)×Int×(List (List am))×(List aL))(k1:Nat):Option (Out Unit Bool) :=
 a.ay[k1]? >>= λx4 =>
 r12.1[k1]? >>= λx5 =>
 x5[0]? >>= λx6 =>
 dL (⟨a.S,a.af,([]:List aD),a.ay⟩:ae) x6.A >>= λr19 =>
 dL (⟨a.S,a.af,([]:List aD),a.ay⟩:ae) x6.C >>= λr20 =>
 bif r19.2 != (0:Int) then
  some (.fin false)
 else
  bif r20.2 != (0:Int) then
   some (.fin false)
  else
   x4[0]? >>= λx7 =>
   bif ((r19.1:Nat):Int) != ((x7:Nat):Int) then
    some (.fin false)
   else
    ee a.S.T (1:Int) >>= λx8 =>
    gY x4 x8 >>= λx9 =>
    jM a.S.P r19.1 x9 >>= λr21 =>
    bif ((r20.1:Nat):Int) != ((r21:Nat):Int) then
     some (.fin false)
    else
     some (.go ())
def gx(a:ae)(b:Nat):Option Bool :=
 mz >>= λr1 =>
 bif !r1 then
  some false
 else
  (
   kL a b ((5:Nat):Int) 2 >>= λr2 =>
   bif !r2 then
    some true
   else
    some (((b:Nat):Int)==(0:Int))
  ) >>= λx1 =>
  bif x1 then
   some true
  else
   k9 (⟨a.S,a.af,([]:List aD),a.ay⟩:ae) >>= λr3 =>
   C3 r3 (λr4 =>
    k9 a >>= λr6 =>
    C3 r6 (λr7 =>
     some false)
    (λr8 =>
     some false))
   (λr5 =>
    k9 a >>= λr9 =>
    C3 r9 (λr10 =>
     some false)
    (λr11 =>
     some (KQ ((b:Nat):Int)) >>= λx2 =>
     fP r5 x2 >>= λr12 =>
     fP r11 x2 >>= λr13 =>
     (
      gS a.S r12.1 x2 >>= λr14 =>
      bif !r14 then
       some true
      else
       o9 1 a.S.N a.S.N (false:Bool) >>= λl1 =>
       jf r12.2.1 l1 >>= λr15 =>
       bif !r15 then
        some true
       else
        iF (⟨r5.zw,r12.2.2.1,r12.2.2.2.1,r12.2.2.2.2⟩:ai) >>= λr16 =>
        bif r16 != (8:Int) then
         some true
        else
         iF (⟨r11.zw,r13.2.2.1,r13.2.2.2.1,r13.2.2.2.2⟩:ai) >>= λr17 =>
         bif r17 != (8:Int) then
          some (r17 != (9:Int))
         else
          some false
     ) >>= λx3 =>
     bif x3 then
      some false
     else
      nN (max 0 (a.S.N).toNat) >>= λu1 =>
      qg (λk1 (st:Unit)=>je a r12 k1) ((max 0 (a.S.N).toNat)-0) 0 () >>= λr18=>ma r18 (λx=>some x) λ_ =>
      some true))
def uB(x6:Int)(k1:Nat)(l2:List (List Nat)):Option (List (List Nat)) :=
 o9 8 x6 x6 (0:Nat) >>= λl4 =>
 l2[k1]? >>= λx8 =>
 some (l2.set k1 l4) >>= λl5 =>
 some l5
def uD(a:List Nat)(x1:Int)(k2:Nat)(l12:List (List Nat))(x19:Int)(x20:Int):Option (Out ((List (List Nat))×Int×Int) ((List (List Nat))×Int)) :=
 (
  bif decide (x20≤x1) then
   some (decide (((k2:Nat):Int)>(0:Int)))
  else
   some false
 ) >>= λx23 =>
 bif x23 then
  l12[k2]? >>= λx24 =>
  gY l12 x20 >>= λx25 =>
  gY a x19 >>= λx26 =>
  gY x24 x20 >>= λx27 =>
  some (x24.set x20.toNat x26) >>= λl15 =>
  some (l12.set k2 l15) >>= λl16 =>
  x25[k2]? >>= λx28 =>
  gY l16 x20 >>= λx29 =>
  x29[k2]? >>= λx30 =>
  some (x29.set k2 x26) >>= λl17 =>
  some (l16.set x20.toNat l17) >>= λl18 =>
  ee x19 (1:Int) >>= λx31 =>
  ee x20 (1:Int) >>= λx32 =>
  some (.go (l18,x31,x32))
 else
  some (.fin (l12,x19))
def uC(a:List Nat)(b:List Nat)(x1:Int)(k2:Nat)(l6:List (List Nat))(x9:Int):Option ((List (List Nat))×Int) :=
 l6[0]? >>= λx12 =>
 l6[k2]? >>= λx13 =>
 a[k2]? >>= λx14 =>
 x12[k2]? >>= λx15 =>
 some (x12.set k2 x14) >>= λl8 =>
 some (l6.set 0 l8) >>= λl9 =>
 x13[0]? >>= λx16 =>
 l9[k2]? >>= λx17 =>
 x17[0]? >>= λx18 =>
 some (x17.set 0 x14) >>= λl10 =>
 some (l9.set k2 l10) >>= λl11 =>
 vM (λ(st:(List (List Nat))×Int×Int)=>uD b x1 k2 st.1 st.2.1 st.2.2) big (l11,x9,((k2:Nat):Int)) >>= λ(l14,x22) =>
 some (l14,x22)
def jN(a:List Nat)(b:List Nat):Option ((List (List Nat))×Int) :=
 jB ((a.length:Nat):Int) (1:Int) >>= λx1 =>
 (
  bif decide (x1<(0:Int)) then
   some true
  else
   ee x1 (1:Int) >>= λx3 =>
   jX x1 x3 >>= λx4 =>
   xz x4 (2:Int) >>= λx5 =>
   some (((b.length:Nat):Int) != x5)
 ) >>= λx2 =>
 bif x2 then
  some (([]:List (List Nat)),((1:Nat):Int))
 else
  ee x1 (1:Int) >>= λx6 =>
  o9 24 x6 x6 ([]:List Nat) >>= λl1 =>
  nN (max 0 (x1+1).toNat) >>= λu1 =>
  cZ (λk1 (st:(List (List Nat)))=>uB x6 k1 st) ((max 0 (x1+1).toNat)-0) 0 l1 >>= λl3 =>
  cZ (λk2 (st:(List (List Nat))×Int)=>uC a b x1 k2 st.1 st.2) ((max 0 (x1+1).toNat)-0) 0 (l3,((0:Nat):Int)) >>= λ(l7,x11) =>
  some (l7,((0:Nat):Int))
def iO(a:Nat)(b:List Nat)(c:Nat)(x2:Nat)(x3:Int):Option (Out (Nat×Int) Nat) :=
 bif decide (x3≥(0:Int)) then
  jM a x2 c >>= λr2 =>
  gY b x3 >>= λx6 =>
  nR a r2 x6 >>= λr3 =>
  jB x3 (1:Int) >>= λx7 =>
  some (.go (r3,x7))
 else
  some (.fin x2)
def mA(a:Nat)(b:List Nat)(c:Nat):Option Nat :=
 jB ((b.length:Nat):Int) (1:Int) >>= λx1 =>
 vM (λ(st:Nat×Int)=>iO a b c st.1 st.2) big (0,x1) >>= λx5 =>
 some x5
def lN(a:List (List Nat))(k1:Nat)(k2:Nat)(l3:List Nat):Option (List Nat) :=
 a[k2]? >>= λx3 =>
 x3[k1]? >>= λx4 =>
 cU 8 l3 ([x4]:List Nat) >>= λl5 =>
 some l5
def jD(a:Nat)(b:List (List Nat))(c:Nat)(k1:Nat)(l1:List Nat):Option (List Nat) :=
 cZ (λk2 (st:(List Nat))=>lN b k1 k2 st) (b.length-0) 0 ([]:List Nat) >>= λl4 =>
 mA a l4 c >>= λr3 =>
 cU 8 l1 ([r3]:List Nat) >>= λl6 =>
 some l6
def lH(a:Nat)(b:List (List Nat))(c:Nat):Option (List Nat) :=
 cZ (λk1 (st:(List Nat))=>jD a b c k1 st) (b.length-0) 0 ([]:List Nat) >>= λl2 =>
 some l2
end Pu
