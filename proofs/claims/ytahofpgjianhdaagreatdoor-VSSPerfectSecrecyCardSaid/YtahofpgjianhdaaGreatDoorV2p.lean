/- Plain functions: what the Go functions compute, over lists and numbers, in Option (none: a run that is not followed). No Go in it. Printed by a program of this claim. -/
import Derived.Test.YtahofpgjianhdaaGreatDoorWd
set_option linter.unusedVariables false
namespace Pu
open Gw
structure T_api_Params where
  P:Nat
  N:Int
  T:Int
structure T_api_Deviation where
  Round:Int
  From:Int
  To:Int
  At:Int
  Kind:Int
  K:Nat
  Of:Int
  SrcIndex:Int
structure T_api_Scenario where
  S:T_api_Params
  Corrupt:List Int
  Deviations:List T_api_Deviation
  Tapes:List (List Nat)
structure T_privitylaw19_Play where
  W:T_api_Scenario
  Q:List (List (List Nat))
structure T_api_Event where
  Round:Int
  From:Int
  Words:List Nat
structure T_tape_Tape where
  zwords:List Nat
  zat:Int
structure T_network_Net where
  zw:T_api_Scenario
  zround:Int
  zviews:List (List T_api_Event)
  ztapes:List T_tape_Tape
structure T_api_VSSState where
  S:List (List (List (List Nat)))
  Rows:List (List (List (List Nat)))
  Flags:List (List (List Nat))
structure T_vssdeal_phase where
  zn:T_network_Net
  zs:T_api_Params
  zq:List (List (List Nat))
  zd:T_api_VSSState
structure T_vss_court where
  zn:T_network_Net
  zp:Nat
  zd:T_api_VSSState
  zaccuses:List (List Bool)
  zobjects:List (List Bool)
  ztold:List (List (List (List Nat)))
structure T_arr2_3 where
  e0:Int
  e1:Int
structure T_vss_hearing where
  zl:List Nat
structure T_api_VSSResult where
  Rows:List (List (List (List Nat)))
  Disqualified:List Bool
structure T_api_Point where
  X:Nat
  Y:Nat
structure T_poly_sum where
  zp:Nat
  zf:List Nat
structure T_privitylaw19_Moved where
  X:T_privitylaw19_Play
  Dealer:Nat
  D:Nat
def privitylaw19_plain  : Option (T_api_Scenario × (List (List (List Nat)))) :=
  some ((⟨(⟨31,((4:Nat):Int),((1:Nat):Int)⟩:T_api_Params),([]:List Int),([]:List T_api_Deviation),([([7]:List Nat),([]:List Nat),([]:List Nat),([]:List Nat)]:List (List Nat))⟩:T_api_Scenario),([([([5,3]:List Nat)]:List (List Nat)),([]:List (List Nat)),([]:List (List Nat)),([]:List (List Nat))]:List (List (List Nat))))
def field_Exponent_L0 (a:Nat) (k1:Nat):Option (Out Unit Int) :=
  ([5,7,13,17,19,31,61]:List Int)[k1]? >>= fun x1 =>
  shlU 1 x1 >>= fun x2 =>
  some (subU x2 1) >>= fun x3 =>
  bif ((a:Nat):Int) == ((x3:Nat):Int) then
    some (.fin x1)
  else
    some (.go ())
def field_Exponent (a:Nat):Option Int :=
  ckN 7 >>= fun u1 =>
  rgO (fun k1 (st:Unit)=>field_Exponent_L0 a k1) (7 - 0) 0 () >>= fun r1=>outB r1 (fun x=>some x) fun _ =>
  some ((0:Nat):Int)
def field_Supported (a:Nat):Option Bool :=
  field_Exponent a >>= fun r1 =>
  some (r1 != (0:Int))
def params_Valid (a:T_api_Params):Option Bool :=
  field_Supported a.P >>= fun r1 =>
  bif r1 then
    bif decide (a.N ≥ (4:Int)) then
      bif decide (a.N≤(13:Int)) then
        some (toU a.N) >>= fun x1 =>
        bif decide (((x1:Nat):Int) < ((a.P:Nat):Int)) then
          bif decide (a.T ≥ (1:Int)) then
            bif decide (a.T < a.N) then
              mulI (3:Int) a.T >>= fun x2 =>
              some (decide (x2 < a.N))
            else
              some false
          else
            some false
        else
          some false
      else
        some false
    else
      some false
  else
    some false
def params_ValidCoalition_L0 (a:T_api_Params) (b:List Int) (k1:Nat):Option (Out Unit Bool) :=
  b[k1]? >>= fun x2 =>
  bif decide (x2 < (1:Int)) then
    some (.fin false)
  else
    bif decide (x2 > a.N) then
      some (.fin false)
    else
      bif decide (((k1:Nat):Int) > (0:Int)) then
        subI ((k1:Nat):Int) (1:Int) >>= fun x3 =>
        idx b x3 >>= fun x4 =>
        bif decide (x4 ≥ x2) then
          some (.fin false)
        else
          some (.go ())
      else
        some (.go ())
def params_ValidCoalition (a:T_api_Params) (b:List Int):Option Bool :=
  (
    params_Valid a >>= fun r1 =>
    bif !r1 then
      some true
    else
      some (decide (((b.length:Nat):Int) > a.T))
  ) >>= fun x1 =>
  bif x1 then
    some false
  else
    rgO (fun k1 (st:Unit)=>params_ValidCoalition_L0 a b k1) (b.length - 0) 0 () >>= fun r2=>outB r2 (fun x=>some x) fun _ =>
    some true
def params_lie (a:T_api_Params) (b:T_api_Deviation):Option Bool :=
  (
    bif b.Kind == (3:Int) then
      some ((1:Nat):Int)
    else
      some ((0:Nat):Int)
  ) >>= fun x1 =>
  bif decide (b.Round ≥ (0:Int)) then
    bif decide (b.At ≥ (0:Int)) then
      bif decide (b.SrcIndex ≥ (0:Int)) then
        bif decide (b.From ≥ (1:Int)) then
          bif decide (b.From≤a.N) then
            bif decide (b.To ≥ (0:Int)) then
              bif decide (b.To≤a.N) then
                bif decide (b.Kind ≥ (1:Int)) then
                  bif decide (b.Kind≤(4:Int)) then
                    bif decide (b.Of ≥ x1) then
                      some (decide (b.Of≤a.N))
                    else
                      some false
                  else
                    some false
                else
                  some false
              else
                some false
            else
              some false
          else
            some false
        else
          some false
      else
        some false
    else
      some false
  else
    some false
def params_ValidScenario_1 (a:T_api_Deviation) (b:T_api_Scenario):Option Bool :=
  params_lie b.S a >>= fun r1 =>
  some (!r1)
def slices_IndexFunc_Lapi_Deviation_api_Deviation_params_ValidScenario_1_L0 (a:List T_api_Deviation) (b:T_api_Scenario) (k1:Nat):Option (Out Unit Int) :=
  a[k1]? >>= fun x1 =>
  params_ValidScenario_1 x1 b >>= fun r2 =>
  bif r2 then
    some (.fin ((k1:Nat):Int))
  else
    some (.go ())
def slices_IndexFunc_Lapi_Deviation_api_Deviation_params_ValidScenario_1 (a:List T_api_Deviation) (b:T_api_Scenario):Option Int :=
  rgO (fun k1 (st:Unit)=>slices_IndexFunc_Lapi_Deviation_api_Deviation_params_ValidScenario_1_L0 a b k1) (a.length - 0) 0 () >>= fun r1=>outB r1 (fun x=>some x) fun _ =>
  some (-1)
def slices_ContainsFunc_Lapi_Deviation_api_Deviation_params_ValidScenario_1 (a:List T_api_Deviation) (b:T_api_Scenario):Option Bool :=
  slices_IndexFunc_Lapi_Deviation_api_Deviation_params_ValidScenario_1 a b >>= fun r1 =>
  some (decide (r1 ≥ (0:Int)))
def params_ValidScenario_2_1 (a:Nat) (b:T_api_Scenario):Option Bool :=
  some (decide (((a:Nat):Int) ≥ ((b.S.P:Nat):Int)))
def slices_IndexFunc_Luint64_uint64_params_ValidScenario_2_1_L0 (a:List Nat) (b:T_api_Scenario) (k1:Nat):Option (Out Unit Int) :=
  a[k1]? >>= fun x1 =>
  params_ValidScenario_2_1 x1 b >>= fun r2 =>
  bif r2 then
    some (.fin ((k1:Nat):Int))
  else
    some (.go ())
def slices_IndexFunc_Luint64_uint64_params_ValidScenario_2_1 (a:List Nat) (b:T_api_Scenario):Option Int :=
  rgO (fun k1 (st:Unit)=>slices_IndexFunc_Luint64_uint64_params_ValidScenario_2_1_L0 a b k1) (a.length - 0) 0 () >>= fun r1=>outB r1 (fun x=>some x) fun _ =>
  some (-1)
def slices_ContainsFunc_Luint64_uint64_params_ValidScenario_2_1 (a:List Nat) (b:T_api_Scenario):Option Bool :=
  slices_IndexFunc_Luint64_uint64_params_ValidScenario_2_1 a b >>= fun r1 =>
  some (decide (r1 ≥ (0:Int)))
def params_ValidScenario_2 (a:List Nat) (b:T_api_Scenario):Option Bool :=
  slices_ContainsFunc_Luint64_uint64_params_ValidScenario_2_1 a b >>= fun r1 =>
  some r1
def slices_IndexFunc_LLuint64_Luint64_params_ValidScenario_2_L0 (a:List (List Nat)) (b:T_api_Scenario) (k1:Nat):Option (Out Unit Int) :=
  a[k1]? >>= fun x1 =>
  params_ValidScenario_2 x1 b >>= fun r2 =>
  bif r2 then
    some (.fin ((k1:Nat):Int))
  else
    some (.go ())
def slices_IndexFunc_LLuint64_Luint64_params_ValidScenario_2 (a:List (List Nat)) (b:T_api_Scenario):Option Int :=
  rgO (fun k1 (st:Unit)=>slices_IndexFunc_LLuint64_Luint64_params_ValidScenario_2_L0 a b k1) (a.length - 0) 0 () >>= fun r1=>outB r1 (fun x=>some x) fun _ =>
  some (-1)
def slices_ContainsFunc_LLuint64_Luint64_params_ValidScenario_2 (a:List (List Nat)) (b:T_api_Scenario):Option Bool :=
  slices_IndexFunc_LLuint64_Luint64_params_ValidScenario_2 a b >>= fun r1 =>
  some (decide (r1 ≥ (0:Int)))
def params_ValidScenario (a:T_api_Scenario):Option Bool :=
  params_ValidCoalition a.S a.Corrupt >>= fun r1 =>
  bif !r1 then
    some false
  else
    bif ((a.Tapes.length:Nat):Int) != a.S.N then
      some false
    else
      slices_ContainsFunc_Lapi_Deviation_api_Deviation_params_ValidScenario_1 a.Deviations a >>= fun r2 =>
      bif r2 then
        some false
      else
        slices_ContainsFunc_LLuint64_Luint64_params_ValidScenario_2 a.Tapes a >>= fun r3 =>
        some (!r3)
def tape_New (a:List Nat):Option T_tape_Tape :=
  some (⟨a,((0:Nat):Int)⟩:T_tape_Tape)
def network_New_L0 (a:T_api_Scenario) (k1:Nat) (l2:List T_tape_Tape):Option (List T_tape_Tape) :=
  a.Tapes[k1]? >>= fun x2 =>
  tape_New x2 >>= fun r3 =>
  appO 8 l2 ([r3]:List T_tape_Tape) >>= fun l4 =>
  some l4
def network_New (a:T_api_Scenario):Option (Unit ⊕ T_network_Net) :=
  params_ValidScenario a >>= fun r1 =>
  bif !r1 then
    some (.inl ())
  else
    mkO 24 a.S.N a.S.N ([]:List T_api_Event) >>= fun l1 =>
    rgS (fun k1 (st:(List T_tape_Tape))=>network_New_L0 a k1 st) (a.Tapes.length - 0) 0 ([]:List T_tape_Tape) >>= fun l3 =>
    some (.inr (⟨a,((0:Nat):Int),l1,l3⟩:T_network_Net))
def network_Net_Scenario (a:T_network_Net):Option T_api_Scenario :=
  some a.zw
def network_Net_Tape (a:T_network_Net) (b:Int):Option Nat :=
  subI b (1:Int) >>= fun x1 =>
  idx a.ztapes x1 >>= fun x2 =>
  some x1.toNat
def tape_Tape_Remaining (a:T_tape_Tape):Option Int :=
  subI ((a.zwords.length:Nat):Int) a.zat >>= fun x1 =>
  some x1
def tape_Tape_Take (a:T_tape_Tape) (b:Int):Option ((List Nat) × Int × Int) :=
  (
    bif decide (b < (0:Int)) then
      some true
    else
      tape_Tape_Remaining a >>= fun r1 =>
      some (decide (b > r1))
  ) >>= fun x1 =>
  bif x1 then
    some (([]:List Nat),((10:Nat):Int),a.zat)
  else
    addI a.zat b >>= fun x2 =>
    cutO a.zwords a.zat x2 >>= fun l1 =>
    some (l1,((0:Nat):Int),x2)
def bivariate_New_L0 (a:List Nat) (k1:Nat) (l2:List (List Nat)):Option (List (List Nat)) :=
  mkO 8 ((a.length:Nat):Int) ((a.length:Nat):Int) (0:Nat) >>= fun l4 =>
  l2[k1]? >>= fun x6 =>
  some (l2.set k1 l4) >>= fun l5 =>
  some l5
def bivariate_New_L1 (a:List Nat) (k2:Nat) (l6:List (List Nat)):Option (List (List Nat)) :=
  a[k2]? >>= fun x8 =>
  l6[0]? >>= fun x9 =>
  l6[k2]? >>= fun x10 =>
  x9[k2]? >>= fun x11 =>
  some (x9.set k2 x8) >>= fun l8 =>
  some (l6.set 0 l8) >>= fun l9 =>
  x10[0]? >>= fun x12 =>
  l9[k2]? >>= fun x13 =>
  x13[0]? >>= fun x14 =>
  some (x13.set 0 x8) >>= fun l10 =>
  some (l9.set k2 l10) >>= fun l11 =>
  some l11
def bivariate_New_L3 (a:List Nat) (k3:Nat) (l16:List Nat) (l17:List (List Nat)) (x16:Int):Option (Out ((List Nat) × (List (List Nat)) × Int) ((List Nat) × (List (List Nat)))) :=
  bif decide (x16 < ((a.length:Nat):Int)) then
    l17[k3]? >>= fun x17 =>
    idx l17 x16 >>= fun x18 =>
    l16[0]? >>= fun x19 =>
    idx x17 x16 >>= fun x20 =>
    some (x17.set x16.toNat x19) >>= fun l22 =>
    some (l17.set k3 l22) >>= fun l23 =>
    x18[k3]? >>= fun x21 =>
    idx l23 x16 >>= fun x22 =>
    x22[k3]? >>= fun x23 =>
    some (x22.set k3 x19) >>= fun l24 =>
    some (l23.set x16.toNat l24) >>= fun l25 =>
    cutO l16 (1:Int) ((l16.length:Nat):Int) >>= fun l26 =>
    addI x16 (1:Int) >>= fun x24 =>
    some (.go (l26,l25,x24))
  else
    some (.fin (l16,l17))
def bivariate_New_L2 (a:List Nat) (k3:Nat) (l12:List Nat) (l13:List (List Nat)):Option ((List Nat) × (List (List Nat))) :=
  lpO (fun (st:(List Nat) × (List (List Nat)) × Int)=>bivariate_New_L3 a k3 st.1 st.2.1 st.2.2) big (l12,l13,((k3:Nat):Int)) >>= fun (l20,l21) =>
  some (l20,l21)
def bivariate_New (a:List Nat) (b:List Nat):Option ((List (List Nat)) × Int) :=
  (
    bif ((a.length:Nat):Int) == (0:Int) then
      some true
    else
      subI ((a.length:Nat):Int) (1:Int) >>= fun x2 =>
      mulI ((a.length:Nat):Int) x2 >>= fun x3 =>
      divI x3 (2:Int) >>= fun x4 =>
      some (((b.length:Nat):Int) != x4)
  ) >>= fun x1 =>
  bif x1 then
    some (([]:List (List Nat)),((1:Nat):Int))
  else
    mkO 24 ((a.length:Nat):Int) ((a.length:Nat):Int) ([]:List Nat) >>= fun l1 =>
    rgS (fun k1 (st:(List (List Nat)))=>bivariate_New_L0 a k1 st) (l1.length - 0) 0 l1 >>= fun l3 =>
    rgS (fun k2 (st:(List (List Nat)))=>bivariate_New_L1 a k2 st) (a.length - 0) 0 l3 >>= fun l7 =>
    ckN (max 1 (((a.length:Nat):Int)).toNat) >>= fun u1 =>
    rgS (fun k3 (st:(List Nat) × (List (List Nat)))=>bivariate_New_L2 a k3 st.1 st.2) ((max 1 (((a.length:Nat):Int)).toNat) - 1) 1 (b,l7) >>= fun (l14,l15) =>
    some (l15,((0:Nat):Int))
def vssdeal_phase_choose_1_L0 (a:Int) (b:T_vssdeal_phase) (x1:List (List Nat)) (k1:Nat) (l1:List T_tape_Tape) (l2:List (List (List (List Nat)))):Option ((List T_tape_Tape) × (List (List (List (List Nat))))) :=
  x1[k1]? >>= fun x3 =>
  addI a (1:Int) >>= fun x4 =>
  network_Net_Tape (⟨b.zn.zw,b.zn.zround,b.zn.zviews,l1⟩:T_network_Net) x4 >>= fun r2 =>
  addI b.zs.T (1:Int) >>= fun x5 =>
  mulI b.zs.T x5 >>= fun x6 =>
  divI x6 (2:Int) >>= fun x7 =>
  l1[r2]? >>= fun x8 =>
  tape_Tape_Take x8 x7 >>= fun r3 =>
  some (l1.set r2 (⟨x8.zwords,r3.2.2⟩:T_tape_Tape)) >>= fun l5 =>
  bivariate_New x3 r3.1 >>= fun r4 =>
  idx l2 a >>= fun x9 =>
  appO 24 x9 ([r4.1]:List (List (List Nat))) >>= fun l6 =>
  some (l2.set a.toNat l6) >>= fun l7 =>
  some (l5,l7)
def vssdeal_phase_choose_1 (a:Int) (b:T_vssdeal_phase):Option ((List T_tape_Tape) × T_api_VSSState) :=
  idx b.zq a >>= fun x1 =>
  rgS (fun k1 (st:(List T_tape_Tape) × (List (List (List (List Nat)))))=>vssdeal_phase_choose_1_L0 a b x1 k1 st.1 st.2) (x1.length - 0) 0 (b.zn.ztapes,b.zd.S) >>= fun (l3,l4) =>
  some (l3,(⟨l4,b.zd.Rows,b.zd.Flags⟩:T_api_VSSState))
def vssdeal_phase_each_vssdeal_phase_choose_1_al_L0 (a:T_vssdeal_phase) (k1:Nat) (l1:List T_tape_Tape) (l2:List (List (List (List Nat)))) (l3:List (List (List (List Nat)))) (l4:List (List (List Nat))):Option ((List T_tape_Tape) × (List (List (List (List Nat)))) × (List (List (List (List Nat)))) × (List (List (List Nat)))) :=
  vssdeal_phase_choose_1 ((k1:Nat):Int) (⟨(⟨a.zn.zw,a.zn.zround,a.zn.zviews,l1⟩:T_network_Net),a.zs,a.zq,(⟨l2,l3,l4⟩:T_api_VSSState)⟩:T_vssdeal_phase) >>= fun r2 =>
  some (r2.1,r2.2.S,r2.2.Rows,r2.2.Flags)
def vssdeal_phase_each_vssdeal_phase_choose_1_al (a:T_vssdeal_phase):Option ((List T_tape_Tape) × T_api_VSSState) :=
  ckN (max 0 (a.zs.N).toNat) >>= fun u1 =>
  rgS (fun k1 (st:(List T_tape_Tape) × (List (List (List (List Nat)))) × (List (List (List (List Nat)))) × (List (List (List Nat))))=>vssdeal_phase_each_vssdeal_phase_choose_1_al_L0 a k1 st.1 st.2.1 st.2.2.1 st.2.2.2) ((max 0 (a.zs.N).toNat) - 0) 0 (a.zn.ztapes,a.zd.S,a.zd.Rows,a.zd.Flags) >>= fun (l5,l6,l7,l8) =>
  some (l5,(⟨l6,l7,l8⟩:T_api_VSSState))
def vssdeal_phase_choose (a:T_vssdeal_phase):Option ((List T_tape_Tape) × T_api_VSSState) :=
  vssdeal_phase_each_vssdeal_phase_choose_1_al a >>= fun r1 =>
  some (r1.1,r1.2)
def math_bits_Mul64 (a:Nat) (b:Nat):Option (Nat × Nat) :=
  some (andU a 4294967295) >>= fun x1 =>
  shrU a (32:Int) >>= fun x2 =>
  some (andU b 4294967295) >>= fun x3 =>
  shrU b (32:Int) >>= fun x4 =>
  some (mulU x1 x3) >>= fun x5 =>
  some (mulU x2 x3) >>= fun x6 =>
  shrU x5 (32:Int) >>= fun x7 =>
  some (addU x6 x7) >>= fun x8 =>
  some (andU x8 4294967295) >>= fun x9 =>
  shrU x8 (32:Int) >>= fun x10 =>
  some (mulU x1 x4) >>= fun x11 =>
  some (addU x9 x11) >>= fun x12 =>
  some (mulU x2 x4) >>= fun x13 =>
  some (addU x13 x10) >>= fun x14 =>
  shrU x12 (32:Int) >>= fun x15 =>
  some (addU x14 x15) >>= fun x16 =>
  some (mulU a b) >>= fun x17 =>
  some (x16,x17)
def math_bits_Len64 (a:Nat):Option Int :=
  bif a == 31 then
    some ((5:Nat):Int)
  else
    bif a == 127 then
      some ((7:Nat):Int)
    else
      bif a == 8191 then
        some ((13:Nat):Int)
      else
        bif a == 131071 then
          some ((17:Nat):Int)
        else
          bif a == 524287 then
            some ((19:Nat):Int)
          else
            bif a == 2147483647 then
              some ((31:Nat):Int)
            else
              bif a == 2305843009213693951 then
                some ((61:Nat):Int)
              else
                bif a == 1 then
                  some ((1:Nat):Int)
                else
                  bif a == 2 then
                    some ((2:Nat):Int)
                  else
                    bif a == 3 then
                      some ((2:Nat):Int)
                    else
                      bif a == 4 then
                        some ((3:Nat):Int)
                      else
                        bif a == 5 then
                          some ((3:Nat):Int)
                        else
                          bif a == 6 then
                            some ((3:Nat):Int)
                          else
                            bif a == 7 then
                              some ((3:Nat):Int)
                            else
                              none
def field_width (a:Nat):Option Nat :=
  math_bits_Len64 a >>= fun r1 =>
  some (toU r1) >>= fun x1 =>
  some x1
def field_fold_L0 (a:Nat) (r1:Nat) (x1:Nat) (x2:Nat):Option (Out (Nat × Nat) Nat) :=
  (
    bif ((x1:Nat):Int) != (0:Int) then
      some true
    else
      some (decide (((x2:Nat):Int) > ((a:Nat):Int)))
  ) >>= fun x5 =>
  bif x5 then
    some (andU x2 a) >>= fun x6 =>
    shrU x2 ((r1:Nat):Int) >>= fun x7 =>
    some (subU 64 r1) >>= fun x8 =>
    shlU x1 ((x8:Nat):Int) >>= fun x9 =>
    some (orU x7 x9) >>= fun x10 =>
    shrU x1 ((r1:Nat):Int) >>= fun x11 =>
    some (addU x10 x6) >>= fun x12 =>
    some (carU x10 x6) >>= fun x13 =>
    some (addU x11 x13) >>= fun x14 =>
    some (.go (x14,x12))
  else
    some (.fin x2)
def field_fold (a:Nat) (b:Nat) (c:Nat):Option Nat :=
  field_width a >>= fun r1 =>
  lpO (fun (st:Nat × Nat)=>field_fold_L0 a r1 st.1 st.2) big (b,c) >>= fun x4 =>
  bif ((x4:Nat):Int) == ((a:Nat):Int) then
    some 0
  else
    some x4
def field_Mul (a:Nat) (b:Nat) (c:Nat):Option Nat :=
  math_bits_Mul64 b c >>= fun r1 =>
  field_fold a r1.1 r1.2 >>= fun r2 =>
  some r2
def field_Add (a:Nat) (b:Nat) (c:Nat):Option Nat :=
  some (addU b c) >>= fun x1 =>
  field_fold a 0 x1 >>= fun r1 =>
  some r1
def bivariate_Row_L1 (a:Nat) (x1:Nat) (x4:List Nat) (k2:Nat) (l4:List Nat):Option (List Nat) :=
  x4[k2]? >>= fun x6 =>
  l4[k2]? >>= fun x7 =>
  field_Mul a x6 x1 >>= fun r3 =>
  field_Add a x7 r3 >>= fun r4 =>
  some (l4.set k2 r4) >>= fun l6 =>
  some l6
def bivariate_Row_L0 (a:Nat) (b:List (List Nat)) (c:Nat) (k1:Nat) (l2:List Nat) (x1:Nat):Option ((List Nat) × Nat) :=
  b[k1]? >>= fun x4 =>
  rgS (fun k2 (st:(List Nat))=>bivariate_Row_L1 a x1 x4 k2 st) (x4.length - 0) 0 l2 >>= fun l5 =>
  field_Mul a x1 c >>= fun r5 =>
  some (l5,r5)
def bivariate_Row (a:Nat) (b:List (List Nat)) (c:Nat):Option (List Nat) :=
  mkO 8 ((b.length:Nat):Int) ((b.length:Nat):Int) (0:Nat) >>= fun l1 =>
  rgS (fun k1 (st:(List Nat) × Nat)=>bivariate_Row_L0 a b c k1 st.1 st.2) (b.length - 0) 0 (l1,1) >>= fun (l3,x3) =>
  some l3
def vssdeal_phase_distribute_1_L1 (a:T_vssdeal_phase) (k1:Nat) (x2:List (List (List Nat))) (k2:Nat) (l3:List Nat):Option (List Nat) :=
  x2[k2]? >>= fun x4 =>
  some (toU ((k1:Nat):Int)) >>= fun x5 =>
  bivariate_Row a.zs.P x4 x5 >>= fun r3 =>
  appO 8 l3 r3 >>= fun l5 =>
  some l5
def vssdeal_phase_distribute_1_L0 (a:Int) (b:T_vssdeal_phase) (k1:Nat) (l1:List (List (List Nat))):Option (List (List (List Nat))) :=
  idx b.zd.S a >>= fun x2 =>
  ckN x2.length >>= fun u2 =>
  rgS (fun k2 (st:(List Nat))=>vssdeal_phase_distribute_1_L1 b k1 x2 k2 st) (x2.length - 0) 0 ([]:List Nat) >>= fun l4 =>
  idx l1 a >>= fun x6 =>
  appO 24 x6 ([l4]:List (List Nat)) >>= fun l6 =>
  some (l1.set a.toNat l6) >>= fun l7 =>
  some l7
def vssdeal_phase_distribute_1 (a:Int) (b:T_vssdeal_phase) (c:List (List (List Nat))):Option (List (List (List Nat))) :=
  ckN (max 1 (b.zs.N+1).toNat) >>= fun u1 =>
  rgS (fun k1 (st:(List (List (List Nat))))=>vssdeal_phase_distribute_1_L0 a b k1 st) ((max 1 (b.zs.N+1).toNat) - 1) 1 c >>= fun l2 =>
  some l2
def vssdeal_phase_each_vssdeal_phase_distribute_1_al_L0 (a:T_vssdeal_phase) (k1:Nat) (l1:List (List (List Nat))):Option (List (List (List Nat))) :=
  vssdeal_phase_distribute_1 ((k1:Nat):Int) a l1 >>= fun r2 =>
  some r2
def vssdeal_phase_each_vssdeal_phase_distribute_1_al (a:T_vssdeal_phase) (b:List (List (List Nat))):Option (List (List (List Nat))) :=
  ckN (max 0 (a.zs.N).toNat) >>= fun u1 =>
  rgS (fun k1 (st:(List (List (List Nat))))=>vssdeal_phase_each_vssdeal_phase_distribute_1_al_L0 a k1 st) ((max 0 (a.zs.N).toNat) - 0) 0 b >>= fun l2 =>
  some l2
def slices_Clone_LLuint64_Luint64 (a:List (List Nat)):Option (List (List Nat)) :=
  appO 24 ([]:List (List Nat)) a >>= fun l1 =>
  some l1
def slices_Index_Lint_int_L0 (a:List Int) (b:Int) (k1:Nat):Option (Out Unit Int) :=
  a[k1]? >>= fun x1 =>
  bif b == x1 then
    some (.fin ((k1:Nat):Int))
  else
    some (.go ())
def slices_Index_Lint_int (a:List Int) (b:Int):Option Int :=
  rgO (fun k1 (st:Unit)=>slices_Index_Lint_int_L0 a b k1) (a.length - 0) 0 () >>= fun r1=>outB r1 (fun x=>some x) fun _ =>
  some (-1)
def slices_Contains_Lint_int (a:List Int) (b:Int):Option Bool :=
  slices_Index_Lint_int a b >>= fun r1 =>
  some (decide (r1 ≥ (0:Int)))
def adversary_done (a:T_api_Scenario) (b:T_api_Deviation) (c:Int):Option Bool :=
  bif b.Round == c then
    slices_Contains_Lint_int a.Corrupt b.From >>= fun r1 =>
    some r1
  else
    some false
def field_Reduce (a:Nat) (b:Nat):Option Nat :=
  field_fold a 0 b >>= fun r1 =>
  some r1
def slices_Clone_Luint64_uint64 (a:List Nat):Option (List Nat) :=
  appO 8 ([]:List Nat) a >>= fun l1 =>
  some l1
def adversary_word (a:List Nat) (b:Int):Option Nat :=
  bif decide (b < (0:Int)) then
    some 0
  else
    bif decide (b ≥ ((a.length:Nat):Int)) then
      some 0
    else
      idx a b >>= fun x1 =>
      some x1
def adversary_upon (a:T_api_Scenario) (b:T_api_Deviation) (c:List Nat) (d:List Nat):Option (List Nat) :=
  bif b.Kind == (4:Int) then
    some ([]:List Nat)
  else
    bif decide (b.At ≥ ((c.length:Nat):Int)) then
      some c
    else
      field_Reduce a.S.P b.K >>= fun r1 =>
      slices_Clone_Luint64_uint64 c >>= fun r2 =>
      bif b.Kind == (1:Int) then
        idx r2 b.At >>= fun x1 =>
        some (r2.set b.At.toNat r1) >>= fun l1 =>
        some l1
      else
        bif b.Kind == (2:Int) then
          idx r2 b.At >>= fun x2 =>
          field_Add a.S.P x2 r1 >>= fun r3 =>
          some (r2.set b.At.toNat r3) >>= fun l2 =>
          some l2
        else
          bif b.Kind == (3:Int) then
            slices_Contains_Lint_int a.Corrupt b.Of >>= fun r4 =>
            (
              bif !r4 then
                adversary_word d b.SrcIndex >>= fun r5 =>
                some r5
              else
                some 0
            ) >>= fun x3 =>
            idx r2 b.At >>= fun x4 =>
            field_Mul a.S.P r1 x3 >>= fun r6 =>
            field_Add a.S.P x4 r6 >>= fun r7 =>
            some (r2.set b.At.toNat r7) >>= fun l3 =>
            some l3
          else
            some r2
def adversary_ApplyToMessages_L0 (a:List (List (List Nat))) (k1:Nat) (l2:List (List (List Nat))):Option (List (List (List Nat))) :=
  a[k1]? >>= fun x2 =>
  slices_Clone_LLuint64_Luint64 x2 >>= fun r2 =>
  l2[k1]? >>= fun x3 =>
  some (l2.set k1 r2) >>= fun l4 =>
  some l4
def adversary_ApplyToMessages_L2 (a:T_api_Scenario) (x5:T_api_Deviation) (l7:List Nat) (x10:Int) (k3:Nat) (l8:List (List (List Nat))):Option (List (List (List Nat))) :=
  (
    addI ((k3:Nat):Int) (1:Int) >>= fun x14 =>
    bif x14 != x5.From then
      bif x5.To == (0:Int) then
        some true
      else
        some (x5.To == x14)
    else
      some false
  ) >>= fun x13 =>
  bif x13 then
    idx l8 x10 >>= fun x15 =>
    x15[k3]? >>= fun x16 =>
    adversary_upon a x5 x16 l7 >>= fun r6 =>
    some (x15.set k3 r6) >>= fun l10 =>
    some (l8.set x10.toNat l10) >>= fun l11 =>
    some l11
  else
    some l8
def adversary_ApplyToMessages_L1 (a:T_api_Scenario) (b:Int) (c:List (List (List Nat))) (k2:Nat) (l5:List (List (List Nat))):Option (List (List (List Nat))) :=
  a.Deviations[k2]? >>= fun x5 =>
  adversary_done a x5 b >>= fun r4 =>
  bif !r4 then
    some l5
  else
    (
      bif x5.Kind == (3:Int) then
        subI x5.Of (1:Int) >>= fun x6 =>
        idx c x6 >>= fun x7 =>
        subI x5.From (1:Int) >>= fun x8 =>
        idx x7 x8 >>= fun x9 =>
        some x9
      else
        some ([]:List Nat)
    ) >>= fun l7 =>
    subI x5.From (1:Int) >>= fun x10 =>
    idx l5 x10 >>= fun x11 =>
    ckN x11.length >>= fun u1 =>
    rgS (fun k3 (st:(List (List (List Nat))))=>adversary_ApplyToMessages_L2 a x5 l7 x10 k3 st) (x11.length - 0) 0 l5 >>= fun l9 =>
    some l9
def adversary_ApplyToMessages (a:T_api_Scenario) (b:Int) (c:List (List (List Nat))):Option (List (List (List Nat))) :=
  mkO 24 ((c.length:Nat):Int) ((c.length:Nat):Int) ([]:List (List Nat)) >>= fun l1 =>
  rgS (fun k1 (st:(List (List (List Nat))))=>adversary_ApplyToMessages_L0 c k1 st) (c.length - 0) 0 l1 >>= fun l3 =>
  rgS (fun k2 (st:(List (List (List Nat))))=>adversary_ApplyToMessages_L1 a b c k2 st) (a.Deviations.length - 0) 0 l3 >>= fun l6 =>
  some l6
def network_Net_note (a:T_network_Net) (b:Int) (c:Int) (d:List Nat):Option (List (List T_api_Event)) :=
  (
    bif b != c then
      some (decide (((d.length:Nat):Int) > (0:Int)))
    else
      some false
  ) >>= fun x1 =>
  bif x1 then
    idx a.zviews b >>= fun x2 =>
    addI c (1:Int) >>= fun x3 =>
    appO 8 ([]:List Nat) d >>= fun l1 =>
    appO 40 x2 ([(⟨a.zround,x3,l1⟩:T_api_Event)]:List T_api_Event) >>= fun l2 =>
    some (a.zviews.set b.toNat l2) >>= fun l3 =>
    some l3
  else
    some a.zviews
def network_Net_Send_L1 (a:T_network_Net) (r1:(List (List (List Nat)))) (k1:Nat) (k2:Nat) (l6:List (List T_api_Event)) (l7:List (List (List Nat))):Option ((List (List T_api_Event)) × (List (List (List Nat)))) :=
  r1[k2]? >>= fun x3 =>
  x3[k1]? >>= fun x4 =>
  appO 8 ([]:List Nat) x4 >>= fun l10 =>
  l7[k1]? >>= fun x5 =>
  appO 24 x5 ([l10]:List (List Nat)) >>= fun l11 =>
  some (l7.set k1 l11) >>= fun l12 =>
  network_Net_note (⟨a.zw,a.zround,l6,a.ztapes⟩:T_network_Net) ((k1:Nat):Int) ((k2:Nat):Int) l10 >>= fun r4 =>
  some (r4,l12)
def network_Net_Send_L0 (a:T_network_Net) (r1:(List (List (List Nat)))) (k1:Nat) (l2:List (List T_api_Event)) (l3:List (List (List Nat))):Option ((List (List T_api_Event)) × (List (List (List Nat)))) :=
  ckN (max 0 (a.zw.S.N).toNat) >>= fun u1 =>
  rgS (fun k2 (st:(List (List T_api_Event)) × (List (List (List Nat))))=>network_Net_Send_L1 a r1 k1 k2 st.1 st.2) ((max 0 (a.zw.S.N).toNat) - 0) 0 (l2,l3) >>= fun (l8,l9) =>
  some (l8,l9)
def network_Net_Send (a:T_network_Net) (b:List (List (List Nat))):Option ((List (List (List Nat))) × Int × (List (List T_api_Event))) :=
  adversary_ApplyToMessages a.zw a.zround b >>= fun r1 =>
  mkO 24 a.zw.S.N a.zw.S.N ([]:List (List Nat)) >>= fun l1 =>
  rgS (fun k1 (st:(List (List T_api_Event)) × (List (List (List Nat))))=>network_Net_Send_L0 a r1 k1 st.1 st.2) (l1.length - 0) 0 (a.zviews,l1) >>= fun (l4,l5) =>
  addI a.zround (1:Int) >>= fun x6 =>
  some (l5,x6,l4)
def network_Resize (a:List Nat) (b:Int):Option (List Nat) :=
  mkO 8 b b (0:Nat) >>= fun l1 =>
  some (copyL l1 a)
def vssdeal_phase_distribute_2_L1 (a:Int) (r2:(List Nat)) (k2:Nat) (l3:List (List Nat)):Option (List (List Nat)) :=
  mulI ((k2:Nat):Int) a >>= fun x7 =>
  addI ((k2:Nat):Int) (1:Int) >>= fun x8 =>
  mulI x8 a >>= fun x9 =>
  cutO r2 x7 x9 >>= fun l5 =>
  appO 24 l3 ([l5]:List (List Nat)) >>= fun l6 =>
  some l6
def vssdeal_phase_distribute_2_L0 (a:Int) (b:T_vssdeal_phase) (c:List (List (List Nat))) (d:Int) (k1:Nat) (l1:List (List (List (List Nat)))):Option (List (List (List (List Nat)))) :=
  b.zq[k1]? >>= fun x2 =>
  idx c a >>= fun x3 =>
  x3[k1]? >>= fun x4 =>
  mulI ((x2.length:Nat):Int) d >>= fun x5 =>
  network_Resize x4 x5 >>= fun r2 =>
  rgS (fun k2 (st:(List (List Nat)))=>vssdeal_phase_distribute_2_L1 d r2 k2 st) (x2.length - 0) 0 ([]:List (List Nat)) >>= fun l4 =>
  idx l1 a >>= fun x10 =>
  appO 24 x10 ([l4]:List (List (List Nat))) >>= fun l7 =>
  some (l1.set a.toNat l7) >>= fun l8 =>
  some l8
def vssdeal_phase_distribute_2 (a:Int) (b:T_vssdeal_phase) (c:List (List (List Nat))) (d:Int):Option T_api_VSSState :=
  rgS (fun k1 (st:(List (List (List (List Nat)))))=>vssdeal_phase_distribute_2_L0 a b c d k1 st) (b.zq.length - 0) 0 b.zd.Rows >>= fun l2 =>
  some (⟨b.zd.S,l2,b.zd.Flags⟩:T_api_VSSState)
def vssdeal_phase_each_vssdeal_phase_distribute_2_al_L0 (a:T_vssdeal_phase) (b:List (List (List Nat))) (c:Int) (k1:Nat) (l1:List (List (List (List Nat)))) (l2:List (List (List (List Nat)))) (l3:List (List (List Nat))):Option ((List (List (List (List Nat)))) × (List (List (List (List Nat)))) × (List (List (List Nat)))) :=
  vssdeal_phase_distribute_2 ((k1:Nat):Int) (⟨a.zn,a.zs,a.zq,(⟨l1,l2,l3⟩:T_api_VSSState)⟩:T_vssdeal_phase) b c >>= fun r2 =>
  some (r2.S,r2.Rows,r2.Flags)
def vssdeal_phase_each_vssdeal_phase_distribute_2_al (a:T_vssdeal_phase) (b:List (List (List Nat))) (c:Int):Option T_api_VSSState :=
  ckN (max 0 (a.zs.N).toNat) >>= fun u1 =>
  rgS (fun k1 (st:(List (List (List (List Nat)))) × (List (List (List (List Nat)))) × (List (List (List Nat))))=>vssdeal_phase_each_vssdeal_phase_distribute_2_al_L0 a b c k1 st.1 st.2.1 st.2.2) ((max 0 (a.zs.N).toNat) - 0) 0 (a.zd.S,a.zd.Rows,a.zd.Flags) >>= fun (l4,l5,l6) =>
  some (⟨l4,l5,l6⟩:T_api_VSSState)
def vssdeal_phase_distribute (a:T_vssdeal_phase):Option (Int × (List (List T_api_Event)) × T_api_VSSState) :=
  addI a.zs.T (1:Int) >>= fun x1 =>
  mkO 24 a.zs.N a.zs.N ([]:List (List Nat)) >>= fun l1 =>
  vssdeal_phase_each_vssdeal_phase_distribute_1_al a l1 >>= fun r1 =>
  network_Net_Send a.zn r1 >>= fun r2 =>
  vssdeal_phase_each_vssdeal_phase_distribute_2_al (⟨(⟨a.zn.zw,r2.2.1,r2.2.2,a.zn.ztapes⟩:T_network_Net),a.zs,a.zq,a.zd⟩:T_vssdeal_phase) r2.1 x1 >>= fun r3 =>
  some (r2.2.1,r2.2.2,r3)
def poly_Eval_L0 (a:Nat) (b:List Nat) (c:Nat) (x2:Nat) (x3:Int):Option (Out (Nat × Int) Nat) :=
  bif decide (x3 ≥ (0:Int)) then
    field_Mul a x2 c >>= fun r2 =>
    idx b x3 >>= fun x6 =>
    field_Add a r2 x6 >>= fun r3 =>
    subI x3 (1:Int) >>= fun x7 =>
    some (.go (r3,x7))
  else
    some (.fin x2)
def poly_Eval (a:Nat) (b:List Nat) (c:Nat):Option Nat :=
  subI ((b.length:Nat):Int) (1:Int) >>= fun x1 =>
  lpO (fun (st:Nat × Int)=>poly_Eval_L0 a b c st.1 st.2) big (0,x1) >>= fun x5 =>
  some x5
def vssdeal_phase_values_L1 (a:T_vssdeal_phase) (b:Int) (x3:List (List Nat)) (k2:Nat) (l3:List Nat):Option (List Nat) :=
  x3[k2]? >>= fun x5 =>
  some (toU b) >>= fun x6 =>
  poly_Eval a.zs.P x5 x6 >>= fun r3 =>
  appO 8 l3 ([r3]:List Nat) >>= fun l5 =>
  some l5
def vssdeal_phase_values_L0 (a:T_vssdeal_phase) (b:Int) (x1:List (List (List Nat))) (k1:Nat) (l1:List Nat):Option (List Nat) :=
  x1[k1]? >>= fun x3 =>
  rgS (fun k2 (st:(List Nat))=>vssdeal_phase_values_L1 a b x3 k2 st) (x3.length - 0) 0 l1 >>= fun l4 =>
  some l4
def vssdeal_phase_values (a:T_vssdeal_phase) (b:Int) (c:Int):Option (List Nat) :=
  idx a.zd.Rows b >>= fun x1 =>
  ckN x1.length >>= fun u1 =>
  rgS (fun k1 (st:(List Nat))=>vssdeal_phase_values_L0 a c x1 k1 st) (x1.length - 0) 0 ([]:List Nat) >>= fun l2 =>
  some l2
def vssdeal_phase_compare_1_L0 (a:Int) (b:T_vssdeal_phase) (k1:Nat) (l1:List (List (List Nat))):Option (List (List (List Nat))) :=
  idx l1 a >>= fun x2 =>
  vssdeal_phase_values b a ((k1:Nat):Int) >>= fun r2 =>
  appO 24 x2 ([r2]:List (List Nat)) >>= fun l3 =>
  some (l1.set a.toNat l3) >>= fun l4 =>
  some l4
def vssdeal_phase_compare_1 (a:Int) (b:T_vssdeal_phase) (c:List (List (List Nat))):Option (List (List (List Nat))) :=
  ckN (max 1 (b.zs.N+1).toNat) >>= fun u1 =>
  rgS (fun k1 (st:(List (List (List Nat))))=>vssdeal_phase_compare_1_L0 a b k1 st) ((max 1 (b.zs.N+1).toNat) - 1) 1 c >>= fun l2 =>
  some l2
def vssdeal_phase_each_vssdeal_phase_compare_1_al_L0 (a:T_vssdeal_phase) (k1:Nat) (l1:List (List (List Nat))):Option (List (List (List Nat))) :=
  vssdeal_phase_compare_1 ((k1:Nat):Int) a l1 >>= fun r2 =>
  some r2
def vssdeal_phase_each_vssdeal_phase_compare_1_al (a:T_vssdeal_phase) (b:List (List (List Nat))):Option (List (List (List Nat))) :=
  ckN (max 0 (a.zs.N).toNat) >>= fun u1 =>
  rgS (fun k1 (st:(List (List (List Nat))))=>vssdeal_phase_each_vssdeal_phase_compare_1_al_L0 a k1 st) ((max 0 (a.zs.N).toNat) - 0) 0 b >>= fun l2 =>
  some l2
def vssdeal_phase_compare (a:T_vssdeal_phase):Option ((List (List (List Nat))) × Int × (List (List T_api_Event))) :=
  mkO 24 a.zs.N a.zs.N ([]:List (List Nat)) >>= fun l1 =>
  vssdeal_phase_each_vssdeal_phase_compare_1_al a l1 >>= fun r1 =>
  network_Net_Send a.zn r1 >>= fun r2 =>
  some (r2.1,r2.2.1,r2.2.2)
def vssdeal_phase_flags_L2 (a:T_vssdeal_phase) (k1:Nat) (r2:(List Nat)) (r3:(List Nat)) (k2:Nat) (k3:Nat) (l6:List Nat) (x9:Int):Option ((List Nat) × Int) :=
  idx r3 x9 >>= fun x12 =>
  idx r2 x9 >>= fun x13 =>
  bif ((x12:Nat):Int) != ((x13:Nat):Int) then
    mulI ((k2:Nat):Int) a.zs.N >>= fun x14 =>
    addI x14 ((k1:Nat):Int) >>= fun x15 =>
    idx l6 x15 >>= fun x16 =>
    some (l6.set x15.toNat 1) >>= fun l8 =>
    addI x9 (1:Int) >>= fun x17 =>
    some (l8,x17)
  else
    addI x9 (1:Int) >>= fun x18 =>
    some (l6,x18)
def vssdeal_phase_flags_L1 (a:T_vssdeal_phase) (k1:Nat) (r2:(List Nat)) (r3:(List Nat)) (k2:Nat) (l4:List Nat) (x5:Int):Option ((List Nat) × Int) :=
  a.zq[k2]? >>= fun x8 =>
  rgS (fun k3 (st:(List Nat) × Int)=>vssdeal_phase_flags_L2 a k1 r2 r3 k2 k3 st.1 st.2) (x8.length - 0) 0 (l4,x5) >>= fun (l7,x11) =>
  some (l7,x11)
def vssdeal_phase_flags_L0 (a:T_vssdeal_phase) (b:Int) (c:List (List Nat)) (k1:Nat) (l2:List Nat):Option (List Nat) :=
  bif ((k1:Nat):Int) == b then
    some l2
  else
    addI ((k1:Nat):Int) (1:Int) >>= fun x3 =>
    vssdeal_phase_values a b x3 >>= fun r2 =>
    c[k1]? >>= fun x4 =>
    network_Resize x4 ((r2.length:Nat):Int) >>= fun r3 =>
    rgS (fun k2 (st:(List Nat) × Int)=>vssdeal_phase_flags_L1 a k1 r2 r3 k2 st.1 st.2) (a.zq.length - 0) 0 (l2,((0:Nat):Int)) >>= fun (l5,x7) =>
    some l5
def vssdeal_phase_flags (a:T_vssdeal_phase) (b:Int) (c:List (List Nat)):Option (List Nat) :=
  mulI a.zs.N a.zs.N >>= fun x1 =>
  mkO 8 x1 x1 (0:Nat) >>= fun l1 =>
  ckN (max 0 (a.zs.N).toNat) >>= fun u1 =>
  rgS (fun k1 (st:(List Nat))=>vssdeal_phase_flags_L0 a b c k1 st) ((max 0 (a.zs.N).toNat) - 0) 0 l1 >>= fun l3 =>
  some l3
def vssdeal_phase_complain_1 (a:Int) (b:T_vssdeal_phase) (c:List (List (List Nat))) (d:List (List Nat)):Option (List (List Nat)) :=
  idx c a >>= fun x1 =>
  vssdeal_phase_flags b a x1 >>= fun r1 =>
  idx d a >>= fun x2 =>
  some (d.set a.toNat r1) >>= fun l1 =>
  some l1
def vssdeal_phase_each_vssdeal_phase_complain_1_al_L0 (a:T_vssdeal_phase) (b:List (List (List Nat))) (k1:Nat) (l1:List (List Nat)):Option (List (List Nat)) :=
  vssdeal_phase_complain_1 ((k1:Nat):Int) a b l1 >>= fun r2 =>
  some r2
def vssdeal_phase_each_vssdeal_phase_complain_1_al (a:T_vssdeal_phase) (b:List (List (List Nat))) (c:List (List Nat)):Option (List (List Nat)) :=
  ckN (max 0 (a.zs.N).toNat) >>= fun u1 =>
  rgS (fun k1 (st:(List (List Nat)))=>vssdeal_phase_each_vssdeal_phase_complain_1_al_L0 a b k1 st) ((max 0 (a.zs.N).toNat) - 0) 0 c >>= fun l2 =>
  some l2
def adversary_ApplyToBroadcasts_L0 (a:T_api_Scenario) (b:Int) (c:List (List Nat)) (k1:Nat) (l1:List (List Nat)):Option (List (List Nat)) :=
  a.Deviations[k1]? >>= fun x2 =>
  adversary_done a x2 b >>= fun r3 =>
  bif !r3 then
    some l1
  else
    (
      bif x2.Kind == (3:Int) then
        subI x2.Of (1:Int) >>= fun x3 =>
        idx c x3 >>= fun x4 =>
        some x4
      else
        some ([]:List Nat)
    ) >>= fun l3 =>
    subI x2.From (1:Int) >>= fun x5 =>
    idx l1 x5 >>= fun x6 =>
    adversary_upon a x2 x6 l3 >>= fun r4 =>
    some (l1.set x5.toNat r4) >>= fun l4 =>
    some l4
def adversary_ApplyToBroadcasts (a:T_api_Scenario) (b:Int) (c:List (List Nat)):Option (List (List Nat)) :=
  slices_Clone_LLuint64_Luint64 c >>= fun r1 =>
  rgS (fun k1 (st:(List (List Nat)))=>adversary_ApplyToBroadcasts_L0 a b c k1 st) (a.Deviations.length - 0) 0 r1 >>= fun l2 =>
  some l2
def network_Net_Broadcast_L1 (a:T_network_Net) (k1:Nat) (l7:List (List Nat)) (k2:Nat) (l8:List (List T_api_Event)):Option (List (List T_api_Event)) :=
  l7[k1]? >>= fun x5 =>
  network_Net_note (⟨a.zw,a.zround,l8,a.ztapes⟩:T_network_Net) ((k2:Nat):Int) ((k1:Nat):Int) x5 >>= fun r4 =>
  some r4
def network_Net_Broadcast_L0 (a:T_network_Net) (r1:(List (List Nat))) (k1:Nat) (l2:List (List T_api_Event)) (l3:List (List Nat)):Option ((List (List T_api_Event)) × (List (List Nat))) :=
  r1[k1]? >>= fun x2 =>
  appO 8 ([]:List Nat) x2 >>= fun l6 =>
  l3[k1]? >>= fun x3 =>
  some (l3.set k1 l6) >>= fun l7 =>
  rgS (fun k2 (st:(List (List T_api_Event)))=>network_Net_Broadcast_L1 a k1 l7 k2 st) (l7.length - 0) 0 l2 >>= fun l9 =>
  some (l9,l7)
def network_Net_Broadcast (a:T_network_Net) (b:List (List Nat)):Option ((List (List Nat)) × Int × (List (List T_api_Event))) :=
  adversary_ApplyToBroadcasts a.zw a.zround b >>= fun r1 =>
  mkO 24 a.zw.S.N a.zw.S.N (([]:List Nat):List Nat) >>= fun l1 =>
  rgS (fun k1 (st:(List (List T_api_Event)) × (List (List Nat)))=>network_Net_Broadcast_L0 a r1 k1 st.1 st.2) (l1.length - 0) 0 (a.zviews,l1) >>= fun (l4,l5) =>
  addI a.zround (1:Int) >>= fun x6 =>
  some (l5,x6,l4)
def vssdeal_phase_complain_2_L0 (a:Int) (b:T_vssdeal_phase) (r1:(List Nat)) (k1:Nat) (l1:List (List (List Nat))):Option (List (List (List Nat))) :=
  idx l1 a >>= fun x4 =>
  mulI ((k1:Nat):Int) b.zs.N >>= fun x5 =>
  addI ((k1:Nat):Int) (1:Int) >>= fun x6 =>
  mulI x6 b.zs.N >>= fun x7 =>
  cutO r1 x5 x7 >>= fun l3 =>
  appO 24 x4 ([l3]:List (List Nat)) >>= fun l4 =>
  some (l1.set a.toNat l4) >>= fun l5 =>
  some l5
def vssdeal_phase_complain_2 (a:Int) (b:List (List Nat)) (c:T_vssdeal_phase):Option T_api_VSSState :=
  idx b a >>= fun x1 =>
  mulI c.zs.N c.zs.N >>= fun x2 =>
  network_Resize x1 x2 >>= fun r1 =>
  ckN (max 0 (c.zs.N).toNat) >>= fun u1 =>
  rgS (fun k1 (st:(List (List (List Nat))))=>vssdeal_phase_complain_2_L0 a c r1 k1 st) ((max 0 (c.zs.N).toNat) - 0) 0 c.zd.Flags >>= fun l2 =>
  some (⟨c.zd.S,c.zd.Rows,l2⟩:T_api_VSSState)
def vssdeal_phase_each_vssdeal_phase_complain_2_al_L0 (a:T_vssdeal_phase) (b:List (List Nat)) (k1:Nat) (l1:List (List (List (List Nat)))) (l2:List (List (List (List Nat)))) (l3:List (List (List Nat))):Option ((List (List (List (List Nat)))) × (List (List (List (List Nat)))) × (List (List (List Nat)))) :=
  vssdeal_phase_complain_2 ((k1:Nat):Int) b (⟨a.zn,a.zs,a.zq,(⟨l1,l2,l3⟩:T_api_VSSState)⟩:T_vssdeal_phase) >>= fun r2 =>
  some (r2.S,r2.Rows,r2.Flags)
def vssdeal_phase_each_vssdeal_phase_complain_2_al (a:T_vssdeal_phase) (b:List (List Nat)):Option T_api_VSSState :=
  ckN (max 0 (a.zs.N).toNat) >>= fun u1 =>
  rgS (fun k1 (st:(List (List (List (List Nat)))) × (List (List (List (List Nat)))) × (List (List (List Nat))))=>vssdeal_phase_each_vssdeal_phase_complain_2_al_L0 a b k1 st.1 st.2.1 st.2.2) ((max 0 (a.zs.N).toNat) - 0) 0 (a.zd.S,a.zd.Rows,a.zd.Flags) >>= fun (l4,l5,l6) =>
  some (⟨l4,l5,l6⟩:T_api_VSSState)
def vssdeal_phase_complain (a:T_vssdeal_phase) (b:List (List (List Nat))):Option (Int × (List (List T_api_Event)) × T_api_VSSState) :=
  mkO 24 a.zs.N a.zs.N (([]:List Nat):List Nat) >>= fun l1 =>
  vssdeal_phase_each_vssdeal_phase_complain_1_al a b l1 >>= fun r1 =>
  network_Net_Broadcast a.zn r1 >>= fun r2 =>
  vssdeal_phase_each_vssdeal_phase_complain_2_al (⟨(⟨a.zn.zw,r2.2.1,r2.2.2,a.zn.ztapes⟩:T_network_Net),a.zs,a.zq,a.zd⟩:T_vssdeal_phase) r2.1 >>= fun r3 =>
  some (r2.2.1,r2.2.2,r3)
def vssdeal_Distribute (a:T_network_Net) (b:List (List (List Nat))):Option (T_api_VSSState × Int × (List (List T_api_Event)) × (List T_tape_Tape)) :=
  network_Net_Scenario a >>= fun r1 =>
  mkO 24 r1.S.N r1.S.N ([]:List (List (List Nat))) >>= fun l1 =>
  mkO 24 r1.S.N r1.S.N ([]:List (List Nat)) >>= fun l2 =>
  vssdeal_phase_choose (⟨a,r1.S,b,(⟨l1,l1,l2⟩:T_api_VSSState)⟩:T_vssdeal_phase) >>= fun r2 =>
  vssdeal_phase_distribute (⟨(⟨a.zw,a.zround,a.zviews,r2.1⟩:T_network_Net),r1.S,b,r2.2⟩:T_vssdeal_phase) >>= fun r3 =>
  vssdeal_phase_compare (⟨(⟨a.zw,r3.1,r3.2.1,r2.1⟩:T_network_Net),r1.S,b,r3.2.2⟩:T_vssdeal_phase) >>= fun r4 =>
  vssdeal_phase_complain (⟨(⟨a.zw,r4.2.1,r4.2.2,r2.1⟩:T_network_Net),r1.S,b,r3.2.2⟩:T_vssdeal_phase) r4.1 >>= fun r5 =>
  some (r5.2.2,r5.1,r5.2.1,r2.1)
def vss_court_parties (a:T_vss_court):Option Int :=
  some ((a.zd.Rows.length:Nat):Int)
def vss_court_disputed_L1 (k1:Nat) (x3:List Nat) (k2:Nat) (l3:List T_arr2_3):Option (List T_arr2_3) :=
  x3[k2]? >>= fun x5 =>
  bif ((x5:Nat):Int) != (0:Int) then
    appO 16 l3 ([(⟨((k1:Nat):Int),((k2:Nat):Int)⟩:T_arr2_3)]:List T_arr2_3) >>= fun l5 =>
    some l5
  else
    some l3
def vss_court_disputed_L0 (a:T_vss_court) (b:Int) (k1:Nat) (l1:List T_arr2_3):Option (List T_arr2_3) :=
  a.zd.Flags[k1]? >>= fun x2 =>
  idx x2 b >>= fun x3 =>
  rgS (fun k2 (st:(List T_arr2_3))=>vss_court_disputed_L1 k1 x3 k2 st) (x3.length - 0) 0 l1 >>= fun l4 =>
  some l4
def vss_court_disputed (a:T_vss_court) (b:Int):Option (List T_arr2_3) :=
  vss_court_parties a >>= fun r1 =>
  ckN (max 0 (r1).toNat) >>= fun u1 =>
  rgS (fun k1 (st:(List T_arr2_3))=>vss_court_disputed_L0 a b k1 st) ((max 0 (r1).toNat) - 0) 0 ([]:List T_arr2_3) >>= fun l2 =>
  some l2
def vss_at (a:Int):Option Nat :=
  addI a (1:Int) >>= fun x1 =>
  some (toU x1) >>= fun x2 =>
  some x2
def bivariate_Eval (a:Nat) (b:List (List Nat)) (c:Nat) (d:Nat):Option Nat :=
  bivariate_Row a b c >>= fun r1 =>
  poly_Eval a r1 d >>= fun r2 =>
  some r2
def vss_court_polys (a:T_vss_court) (b:Int):Option Int :=
  idx a.zd.S b >>= fun x1 =>
  some ((x1.length:Nat):Int)
def vss_hearing_take (a:T_vss_hearing) (b:Int):Option ((List Nat) × (List Nat)) :=
  network_Resize a.zl b >>= fun r1 =>
  some (min b ((a.zl.length:Nat):Int)) >>= fun x1 =>
  cutO a.zl x1 ((a.zl.length:Nat):Int) >>= fun l1 =>
  some (r1,l1)
def vss_court_answers_L2 (a:T_vss_court) (x3:T_arr2_3) (x4:List (List (List Nat))) (k3:Nat) (l5:List Nat):Option (List Nat) :=
  x4[k3]? >>= fun x6 =>
  vss_at x3.e0 >>= fun r6 =>
  vss_at x3.e1 >>= fun r7 =>
  bivariate_Eval a.zp x6 r6 r7 >>= fun r8 =>
  appO 8 l5 ([r8]:List Nat) >>= fun l7 =>
  some l7
def vss_court_answers_L1 (a:T_vss_court) (k1:Nat) (r3:(List T_arr2_3)) (k2:Nat) (l3:List Nat):Option (List Nat) :=
  r3[k2]? >>= fun x3 =>
  a.zd.S[k1]? >>= fun x4 =>
  rgS (fun k3 (st:(List Nat))=>vss_court_answers_L2 a x3 x4 k3 st) (x4.length - 0) 0 l3 >>= fun l6 =>
  some l6
def vss_court_answers_L0 (a:T_vss_court) (k1:Nat) (l1:List (List Nat)):Option (List (List Nat)) :=
  vss_court_disputed a ((k1:Nat):Int) >>= fun r3 =>
  rgS (fun k2 (st:(List Nat))=>vss_court_answers_L1 a k1 r3 k2 st) (r3.length - 0) 0 ([]:List Nat) >>= fun l4 =>
  appO 24 l1 ([l4]:List (List Nat)) >>= fun l8 =>
  some l8
def vss_court_answers_L4 (a:T_vss_court) (r9:(List (List Nat)) × Int × (List (List T_api_Event))) (k4:Nat) (k5:Nat) (l11:List Nat) (l12:List (List Nat)):Option ((List Nat) × (List (List Nat))) :=
  vss_court_polys (⟨(⟨a.zn.zw,r9.2.1,r9.2.2,a.zn.ztapes⟩:T_network_Net),a.zp,a.zd,a.zaccuses,a.zobjects,a.ztold⟩:T_vss_court) ((k4:Nat):Int) >>= fun r14 =>
  vss_hearing_take (⟨l11⟩:T_vss_hearing) r14 >>= fun r15 =>
  appO 24 l12 ([r15.1]:List (List Nat)) >>= fun l15 =>
  some (r15.2,l15)
def vss_court_answers_L3 (a:T_vss_court) (r9:(List (List Nat)) × Int × (List (List T_api_Event))) (k4:Nat) (l9:List (List (List Nat))):Option (List (List (List Nat))) :=
  r9.1[k4]? >>= fun x8 =>
  vss_court_disputed (⟨(⟨a.zn.zw,r9.2.1,r9.2.2,a.zn.ztapes⟩:T_network_Net),a.zp,a.zd,a.zaccuses,a.zobjects,a.ztold⟩:T_vss_court) ((k4:Nat):Int) >>= fun r12 =>
  rgS (fun k5 (st:(List Nat) × (List (List Nat)))=>vss_court_answers_L4 a r9 k4 k5 st.1 st.2) (r12.length - 0) 0 (x8,([]:List (List Nat))) >>= fun (l13,l14) =>
  appO 24 l9 ([l14]:List (List (List Nat))) >>= fun l16 =>
  some l16
def vss_court_answers (a:T_vss_court):Option ((List (List (List Nat))) × Int × (List (List T_api_Event))) :=
  vss_court_parties a >>= fun r1 =>
  ckN (max 0 (r1).toNat) >>= fun u1 =>
  rgS (fun k1 (st:(List (List Nat)))=>vss_court_answers_L0 a k1 st) ((max 0 (r1).toNat) - 0) 0 ([]:List (List Nat)) >>= fun l2 =>
  network_Net_Broadcast a.zn l2 >>= fun r9 =>
  vss_court_parties (⟨(⟨a.zn.zw,r9.2.1,r9.2.2,a.zn.ztapes⟩:T_network_Net),a.zp,a.zd,a.zaccuses,a.zobjects,a.ztold⟩:T_vss_court) >>= fun r10 =>
  ckN (max 0 (r10).toNat) >>= fun u2 =>
  rgS (fun k4 (st:(List (List (List Nat))))=>vss_court_answers_L3 a r9 k4 st) ((max 0 (r10).toNat) - 0) 0 ([]:List (List (List Nat))) >>= fun l10 =>
  some (l10,r9.2.1,r9.2.2)
def vss_others (a:T_arr2_3) (b:Int):Option (List Int) :=
  (
    bif a.e0 == b then
      appO 8 ([]:List Int) ([a.e1]:List Int) >>= fun l2 =>
      some l2
    else
      some ([]:List Int)
  ) >>= fun l1 =>
  bif a.e1 == b then
    appO 8 l1 ([a.e0]:List Int) >>= fun l3 =>
    some l3
  else
    some l1
def vss_court_own (a:T_vss_court) (b:Int) (c:Int) (d:Int):Option (List Nat) :=
  idx a.zd.Rows b >>= fun x1 =>
  idx x1 c >>= fun x2 =>
  idx x2 d >>= fun x3 =>
  some x3
def vss_court_wronged_L2 (a:T_vss_court) (b:Int) (c:Int) (x2:Int) (x3:List Nat) (k3:Nat):Option (Out Unit Bool) :=
  x3[k3]? >>= fun x4 =>
  vss_court_own a b c ((k3:Nat):Int) >>= fun r6 =>
  vss_at x2 >>= fun r7 =>
  poly_Eval a.zp r6 r7 >>= fun r8 =>
  bif ((r8:Nat):Int) != ((x4:Nat):Int) then
    some (.fin true)
  else
    some (.go ())
def vss_court_wronged_L1 (a:T_vss_court) (b:Int) (c:Int) (d:List (List Nat)) (k1:Nat) (r3:(List Int)) (k2:Nat):Option (Out Unit Bool) :=
  r3[k2]? >>= fun x2 =>
  d[k1]? >>= fun x3 =>
  rgO (fun k3 (st:Unit)=>vss_court_wronged_L2 a b c x2 x3 k3) (x3.length - 0) 0 () >>= fun r5=>outB r5 (fun x=>some (.fin x)) fun _ =>
  some (.go ())
def vss_court_wronged_L0 (a:T_vss_court) (b:Int) (c:Int) (d:List (List Nat)) (r1:(List T_arr2_3)) (k1:Nat):Option (Out Unit Bool) :=
  r1[k1]? >>= fun x1 =>
  vss_others x1 b >>= fun r3 =>
  rgO (fun k2 (st:Unit)=>vss_court_wronged_L1 a b c d k1 r3 k2) (r3.length - 0) 0 () >>= fun r4=>outB r4 (fun x=>some (.fin x)) fun _ =>
  some (.go ())
def vss_court_wronged (a:T_vss_court) (b:Int) (c:Int) (d:List (List Nat)):Option Bool :=
  vss_court_disputed a c >>= fun r1 =>
  rgO (fun k1 (st:Unit)=>vss_court_wronged_L0 a b c d r1 k1) (r1.length - 0) 0 () >>= fun r2=>outB r2 (fun x=>some x) fun _ =>
  some false
def vss_Complete_1 (a:Int) (b:Int) (c:T_vss_court) (d:List (List (List Nat))):Option Bool :=
  idx d b >>= fun x1 =>
  vss_court_wronged c a b x1 >>= fun r1 =>
  some r1
def vss_court_vote_vss_Complete_1_al_L1 (a:T_vss_court) (b:List (List (List Nat))) (k1:Nat) (k2:Nat) (l3:List Nat):Option (List Nat) :=
  vss_Complete_1 ((k1:Nat):Int) ((k2:Nat):Int) a b >>= fun r4 =>
  bif r4 then
    appO 8 l3 ([1]:List Nat) >>= fun l5 =>
    some l5
  else
    appO 8 l3 ([0]:List Nat) >>= fun l6 =>
    some l6
def vss_court_vote_vss_Complete_1_al_L0 (a:T_vss_court) (b:List (List (List Nat))) (r1:Int) (k1:Nat) (l1:List (List Nat)):Option (List (List Nat)) :=
  rgS (fun k2 (st:(List Nat))=>vss_court_vote_vss_Complete_1_al_L1 a b k1 k2 st) ((max 0 (r1).toNat) - 0) 0 ([]:List Nat) >>= fun l4 =>
  appO 24 l1 ([l4]:List (List Nat)) >>= fun l7 =>
  some l7
def vss_court_vote_vss_Complete_1_al_L3 (r5:(List (List Nat)) × Int × (List (List T_api_Event))) (r6:Int) (k3:Nat) (k4:Nat) (l11:List (List Bool)):Option (List (List Bool)) :=
  l11[k3]? >>= fun x5 =>
  r5.1[k4]? >>= fun x6 =>
  network_Resize x6 r6 >>= fun r9 =>
  r9[k3]? >>= fun x7 =>
  appO 1 x5 ([((x7:Nat):Int) != (0:Int)]:List Bool) >>= fun l13 =>
  some (l11.set k3 l13) >>= fun l14 =>
  some l14
def vss_court_vote_vss_Complete_1_al_L2 (r5:(List (List Nat)) × Int × (List (List T_api_Event))) (r6:Int) (k3:Nat) (l9:List (List Bool)):Option (List (List Bool)) :=
  ckN (max 0 (r6).toNat) >>= fun u2 =>
  rgS (fun k4 (st:(List (List Bool)))=>vss_court_vote_vss_Complete_1_al_L3 r5 r6 k3 k4 st) ((max 0 (r6).toNat) - 0) 0 l9 >>= fun l12 =>
  some l12
def vss_court_vote_vss_Complete_1_al (a:T_vss_court) (b:List (List (List Nat))):Option ((List (List Bool)) × Int × (List (List T_api_Event))) :=
  vss_court_parties a >>= fun r1 =>
  ckN (max 0 (r1).toNat) >>= fun u1 =>
  rgS (fun k1 (st:(List (List Nat)))=>vss_court_vote_vss_Complete_1_al_L0 a b r1 k1 st) ((max 0 (r1).toNat) - 0) 0 ([]:List (List Nat)) >>= fun l2 =>
  network_Net_Broadcast a.zn l2 >>= fun r5 =>
  vss_court_parties (⟨(⟨a.zn.zw,r5.2.1,r5.2.2,a.zn.ztapes⟩:T_network_Net),a.zp,a.zd,a.zaccuses,a.zobjects,a.ztold⟩:T_vss_court) >>= fun r6 =>
  mkO 24 r6 r6 ([]:List Bool) >>= fun l8 =>
  rgS (fun k3 (st:(List (List Bool)))=>vss_court_vote_vss_Complete_1_al_L2 r5 r6 k3 st) (l8.length - 0) 0 l8 >>= fun l10 =>
  some (l10,r5.2.1,r5.2.2)
def vss_court_tell_L2 (a:T_vss_court) (k2:Nat) (x5:List (List (List Nat))) (k3:Nat) (l5:List Nat):Option (List Nat) :=
  x5[k3]? >>= fun x7 =>
  vss_at ((k2:Nat):Int) >>= fun r5 =>
  bivariate_Row a.zp x7 r5 >>= fun r6 =>
  appO 8 l5 r6 >>= fun l7 =>
  some l7
def vss_court_tell_L1 (a:T_vss_court) (k1:Nat) (x2:List Bool) (k2:Nat) (l3:List Nat):Option (List Nat) :=
  x2[k2]? >>= fun x4 =>
  bif x4 then
    a.zd.S[k1]? >>= fun x5 =>
    rgS (fun k3 (st:(List Nat))=>vss_court_tell_L2 a k2 x5 k3 st) (x5.length - 0) 0 l3 >>= fun l6 =>
    some l6
  else
    some l3
def vss_court_tell_L0 (a:T_vss_court) (k1:Nat) (l1:List (List Nat)):Option (List (List Nat)) :=
  a.zaccuses[k1]? >>= fun x2 =>
  rgS (fun k2 (st:(List Nat))=>vss_court_tell_L1 a k1 x2 k2 st) (x2.length - 0) 0 ([]:List Nat) >>= fun l4 =>
  appO 24 l1 ([l4]:List (List Nat)) >>= fun l8 =>
  some l8
def vss_court_tell_L5 (x8:Int) (k5:Nat) (k6:Nat) (l16:List Nat) (l17:List (List (List Nat))):Option ((List Nat) × (List (List (List Nat)))) :=
  l17[k5]? >>= fun x15 =>
  vss_hearing_take (⟨l16⟩:T_vss_hearing) x8 >>= fun r15 =>
  appO 24 x15 ([r15.1]:List (List Nat)) >>= fun l20 =>
  some (l17.set k5 l20) >>= fun l21 =>
  some (r15.2,l21)
def vss_court_tell_L4 (a:T_vss_court) (r7:(List (List Nat)) × Int × (List (List T_api_Event))) (x8:Int) (l9:List (List (List (List Nat)))) (k4:Nat) (x11:List Bool) (k5:Nat) (l12:List Nat) (l13:List (List (List Nat))):Option ((List Nat) × (List (List (List Nat)))) :=
  x11[k5]? >>= fun x13 =>
  bif x13 then
    vss_court_polys (⟨(⟨a.zn.zw,r7.2.1,r7.2.2,a.zn.ztapes⟩:T_network_Net),a.zp,a.zd,a.zaccuses,a.zobjects,l9⟩:T_vss_court) ((k4:Nat):Int) >>= fun r13 =>
    ckN (max 0 (r13).toNat) >>= fun u3 =>
    rgS (fun k6 (st:(List Nat) × (List (List (List Nat))))=>vss_court_tell_L5 x8 k5 k6 st.1 st.2) ((max 0 (r13).toNat) - 0) 0 (l12,l13) >>= fun (l18,l19) =>
    some (l18,l19)
  else
    some (l12,l13)
def vss_court_tell_L3 (a:T_vss_court) (r7:(List (List Nat)) × Int × (List (List T_api_Event))) (x8:Int) (k4:Nat) (l9:List (List (List (List Nat)))):Option (List (List (List (List Nat)))) :=
  r7.1[k4]? >>= fun x10 =>
  vss_court_parties (⟨(⟨a.zn.zw,r7.2.1,r7.2.2,a.zn.ztapes⟩:T_network_Net),a.zp,a.zd,a.zaccuses,a.zobjects,l9⟩:T_vss_court) >>= fun r11 =>
  mkO 24 r11 r11 ([]:List (List Nat)) >>= fun l11 =>
  a.zaccuses[k4]? >>= fun x11 =>
  rgS (fun k5 (st:(List Nat) × (List (List (List Nat))))=>vss_court_tell_L4 a r7 x8 l9 k4 x11 k5 st.1 st.2) (x11.length - 0) 0 (x10,l11) >>= fun (l14,l15) =>
  appO 24 l9 ([l15]:List (List (List (List Nat)))) >>= fun l22 =>
  some l22
def vss_court_tell (a:T_vss_court):Option (Int × (List (List T_api_Event)) × (List (List (List (List Nat))))) :=
  vss_court_parties a >>= fun r1 =>
  ckN (max 0 (r1).toNat) >>= fun u1 =>
  rgS (fun k1 (st:(List (List Nat)))=>vss_court_tell_L0 a k1 st) ((max 0 (r1).toNat) - 0) 0 ([]:List (List Nat)) >>= fun l2 =>
  network_Net_Broadcast a.zn l2 >>= fun r7 =>
  network_Net_Scenario (⟨a.zn.zw,r7.2.1,r7.2.2,a.zn.ztapes⟩:T_network_Net) >>= fun r8 =>
  addI r8.S.T (1:Int) >>= fun x8 =>
  vss_court_parties (⟨(⟨a.zn.zw,r7.2.1,r7.2.2,a.zn.ztapes⟩:T_network_Net),a.zp,a.zd,a.zaccuses,a.zobjects,a.ztold⟩:T_vss_court) >>= fun r9 =>
  ckN (max 0 (r9).toNat) >>= fun u2 =>
  rgS (fun k4 (st:(List (List (List (List Nat)))))=>vss_court_tell_L3 a r7 x8 k4 st) ((max 0 (r9).toNat) - 0) 0 a.ztold >>= fun l10 =>
  some (r7.2.1,r7.2.2,l10)
def vss_court_objecting_L1 (a:T_vss_court) (b:Int) (c:Int) (k1:Nat) (x4:List (List Nat)) (k2:Nat):Option (Out Unit Bool) :=
  x4[k2]? >>= fun x5 =>
  vss_at b >>= fun r3 =>
  poly_Eval a.zp x5 r3 >>= fun r4 =>
  vss_court_own a b c ((k2:Nat):Int) >>= fun r5 =>
  vss_at ((k1:Nat):Int) >>= fun r6 =>
  poly_Eval a.zp r5 r6 >>= fun r7 =>
  bif ((r4:Nat):Int) != ((r7:Nat):Int) then
    some (.fin true)
  else
    some (.go ())
def vss_court_objecting_L0 (a:T_vss_court) (b:Int) (c:Int) (x3:List (List (List Nat))) (k1:Nat):Option (Out Unit Bool) :=
  x3[k1]? >>= fun x4 =>
  rgO (fun k2 (st:Unit)=>vss_court_objecting_L1 a b c k1 x4 k2) (x4.length - 0) 0 () >>= fun r2=>outB r2 (fun x=>some (.fin x)) fun _ =>
  some (.go ())
def vss_court_objecting (a:T_vss_court) (b:Int) (c:Int):Option Bool :=
  idx a.zaccuses c >>= fun x1 =>
  idx x1 b >>= fun x2 =>
  bif x2 then
    some false
  else
    idx a.ztold c >>= fun x3 =>
    rgO (fun k1 (st:Unit)=>vss_court_objecting_L0 a b c x3 k1) (x3.length - 0) 0 () >>= fun r1=>outB r1 (fun x=>some x) fun _ =>
    some false
def vss_court_vote_vss_court_objecting_al_L1 (a:T_vss_court) (k1:Nat) (k2:Nat) (l3:List Nat):Option (List Nat) :=
  vss_court_objecting a ((k1:Nat):Int) ((k2:Nat):Int) >>= fun r4 =>
  bif r4 then
    appO 8 l3 ([1]:List Nat) >>= fun l5 =>
    some l5
  else
    appO 8 l3 ([0]:List Nat) >>= fun l6 =>
    some l6
def vss_court_vote_vss_court_objecting_al_L0 (a:T_vss_court) (r1:Int) (k1:Nat) (l1:List (List Nat)):Option (List (List Nat)) :=
  rgS (fun k2 (st:(List Nat))=>vss_court_vote_vss_court_objecting_al_L1 a k1 k2 st) ((max 0 (r1).toNat) - 0) 0 ([]:List Nat) >>= fun l4 =>
  appO 24 l1 ([l4]:List (List Nat)) >>= fun l7 =>
  some l7
def vss_court_vote_vss_court_objecting_al_L3 (r5:(List (List Nat)) × Int × (List (List T_api_Event))) (r6:Int) (k3:Nat) (k4:Nat) (l11:List (List Bool)):Option (List (List Bool)) :=
  l11[k3]? >>= fun x5 =>
  r5.1[k4]? >>= fun x6 =>
  network_Resize x6 r6 >>= fun r9 =>
  r9[k3]? >>= fun x7 =>
  appO 1 x5 ([((x7:Nat):Int) != (0:Int)]:List Bool) >>= fun l13 =>
  some (l11.set k3 l13) >>= fun l14 =>
  some l14
def vss_court_vote_vss_court_objecting_al_L2 (r5:(List (List Nat)) × Int × (List (List T_api_Event))) (r6:Int) (k3:Nat) (l9:List (List Bool)):Option (List (List Bool)) :=
  ckN (max 0 (r6).toNat) >>= fun u2 =>
  rgS (fun k4 (st:(List (List Bool)))=>vss_court_vote_vss_court_objecting_al_L3 r5 r6 k3 k4 st) ((max 0 (r6).toNat) - 0) 0 l9 >>= fun l12 =>
  some l12
def vss_court_vote_vss_court_objecting_al (a:T_vss_court):Option ((List (List Bool)) × Int × (List (List T_api_Event))) :=
  vss_court_parties a >>= fun r1 =>
  ckN (max 0 (r1).toNat) >>= fun u1 =>
  rgS (fun k1 (st:(List (List Nat)))=>vss_court_vote_vss_court_objecting_al_L0 a r1 k1 st) ((max 0 (r1).toNat) - 0) 0 ([]:List (List Nat)) >>= fun l2 =>
  network_Net_Broadcast a.zn l2 >>= fun r5 =>
  vss_court_parties (⟨(⟨a.zn.zw,r5.2.1,r5.2.2,a.zn.ztapes⟩:T_network_Net),a.zp,a.zd,a.zaccuses,a.zobjects,a.ztold⟩:T_vss_court) >>= fun r6 =>
  mkO 24 r6 r6 ([]:List Bool) >>= fun l8 =>
  rgS (fun k3 (st:(List (List Bool)))=>vss_court_vote_vss_court_objecting_al_L2 r5 r6 k3 st) (l8.length - 0) 0 l8 >>= fun l10 =>
  some (l10,r5.2.1,r5.2.2)
def vss_court_out_L0 (a:T_vss_court) (b:Int) (k1:Nat) (x1:Int):Option Int :=
  idx a.zaccuses b >>= fun x4 =>
  x4[k1]? >>= fun x5 =>
  bif x5 then
    addI x1 (1:Int) >>= fun x6 =>
    some x6
  else
    idx a.zobjects b >>= fun x7 =>
    x7[k1]? >>= fun x8 =>
    bif x8 then
      addI x1 (1:Int) >>= fun x9 =>
      some x9
    else
      some x1
def vss_court_out (a:T_vss_court) (b:Int):Option Bool :=
  vss_court_parties a >>= fun r1 =>
  ckN (max 0 (r1).toNat) >>= fun u1 =>
  rgS (fun k1 (st:Int)=>vss_court_out_L0 a b k1 st) ((max 0 (r1).toNat) - 0) 0 ((0:Nat):Int) >>= fun x3 =>
  network_Net_Scenario a.zn >>= fun r3 =>
  some (decide (x3 > r3.S.T))
def vss_court_held_L0 (a:T_vss_court) (k1:Nat) (l2:List (List Nat)):Option (List (List Nat)) :=
  network_Net_Scenario a.zn >>= fun r3 =>
  addI r3.S.T (1:Int) >>= fun x2 =>
  mkO 8 x2 x2 (0:Nat) >>= fun l4 =>
  l2[k1]? >>= fun x3 =>
  some (l2.set k1 l4) >>= fun l5 =>
  some l5
def vss_court_held (a:T_vss_court) (b:Int) (c:Int) (d:Bool):Option (List (List Nat)) :=
  bif d then
    vss_court_polys a c >>= fun r1 =>
    mkO 24 r1 r1 (([]:List Nat):List Nat) >>= fun l1 =>
    rgS (fun k1 (st:(List (List Nat)))=>vss_court_held_L0 a k1 st) (l1.length - 0) 0 l1 >>= fun l3 =>
    some l3
  else
    idx a.zaccuses c >>= fun x4 =>
    idx x4 b >>= fun x5 =>
    bif x5 then
      idx a.ztold c >>= fun x6 =>
      idx x6 b >>= fun x7 =>
      some x7
    else
      idx a.zd.Rows b >>= fun x8 =>
      idx x8 c >>= fun x9 =>
      slices_Clone_LLuint64_Luint64 x9 >>= fun r4 =>
      some r4
def vss_Complete_L0 (a:T_network_Net) (b:T_api_VSSState) (r1:T_api_Scenario) (r3:(List (List Bool)) × Int × (List (List T_api_Event))) (r4:Int × (List (List T_api_Event)) × (List (List (List (List Nat))))) (r5:(List (List Bool)) × Int × (List (List T_api_Event))) (k1:Nat) (l1:List Bool):Option (List Bool) :=
  vss_court_out (⟨(⟨a.zw,r5.2.1,r5.2.2,a.ztapes⟩:T_network_Net),r1.S.P,b,r3.1,r5.1,r4.2.2⟩:T_vss_court) ((k1:Nat):Int) >>= fun r8 =>
  appO 1 l1 ([r8]:List Bool) >>= fun l3 =>
  some l3
def vss_Complete_L2 (a:T_network_Net) (b:T_api_VSSState) (r1:T_api_Scenario) (r3:(List (List Bool)) × Int × (List (List T_api_Event))) (r4:Int × (List (List T_api_Event)) × (List (List (List (List Nat))))) (r5:(List (List Bool)) × Int × (List (List T_api_Event))) (l2:List Bool) (k2:Nat) (k3:Nat) (l6:List (List (List Nat))):Option (List (List (List Nat))) :=
  l2[k3]? >>= fun x4 =>
  vss_court_held (⟨(⟨a.zw,r5.2.1,r5.2.2,a.ztapes⟩:T_network_Net),r1.S.P,b,r3.1,r5.1,r4.2.2⟩:T_vss_court) ((k2:Nat):Int) ((k3:Nat):Int) x4 >>= fun r11 =>
  appO 24 l6 ([r11]:List (List (List Nat))) >>= fun l8 =>
  some l8
def vss_Complete_L1 (a:T_network_Net) (b:T_api_VSSState) (r1:T_api_Scenario) (r3:(List (List Bool)) × Int × (List (List T_api_Event))) (r4:Int × (List (List T_api_Event)) × (List (List (List (List Nat))))) (r5:(List (List Bool)) × Int × (List (List T_api_Event))) (r6:Int) (l2:List Bool) (k2:Nat) (l4:List (List (List (List Nat)))):Option (List (List (List (List Nat)))) :=
  rgS (fun k3 (st:(List (List (List Nat))))=>vss_Complete_L2 a b r1 r3 r4 r5 l2 k2 k3 st) ((max 0 (r6).toNat) - 0) 0 ([]:List (List (List Nat))) >>= fun l7 =>
  appO 24 l4 ([l7]:List (List (List (List Nat)))) >>= fun l9 =>
  some l9
def vss_Complete (a:T_network_Net) (b:T_api_VSSState):Option (T_api_VSSResult × Int × (List (List T_api_Event))) :=
  network_Net_Scenario a >>= fun r1 =>
  vss_court_answers (⟨a,r1.S.P,b,([]:List (List Bool)),([]:List (List Bool)),([]:List (List (List (List Nat))))⟩:T_vss_court) >>= fun r2 =>
  vss_court_vote_vss_Complete_1_al (⟨(⟨a.zw,r2.2.1,r2.2.2,a.ztapes⟩:T_network_Net),r1.S.P,b,([]:List (List Bool)),([]:List (List Bool)),([]:List (List (List (List Nat))))⟩:T_vss_court) r2.1 >>= fun r3 =>
  vss_court_tell (⟨(⟨a.zw,r3.2.1,r3.2.2,a.ztapes⟩:T_network_Net),r1.S.P,b,r3.1,([]:List (List Bool)),([]:List (List (List (List Nat))))⟩:T_vss_court) >>= fun r4 =>
  vss_court_vote_vss_court_objecting_al (⟨(⟨a.zw,r4.1,r4.2.1,a.ztapes⟩:T_network_Net),r1.S.P,b,r3.1,([]:List (List Bool)),r4.2.2⟩:T_vss_court) >>= fun r5 =>
  vss_court_parties (⟨(⟨a.zw,r5.2.1,r5.2.2,a.ztapes⟩:T_network_Net),r1.S.P,b,r3.1,r5.1,r4.2.2⟩:T_vss_court) >>= fun r6 =>
  ckN (max 0 (r6).toNat) >>= fun u1 =>
  rgS (fun k1 (st:(List Bool))=>vss_Complete_L0 a b r1 r3 r4 r5 k1 st) ((max 0 (r6).toNat) - 0) 0 ([]:List Bool) >>= fun l2 =>
  rgS (fun k2 (st:(List (List (List (List Nat)))))=>vss_Complete_L1 a b r1 r3 r4 r5 r6 l2 k2 st) ((max 0 (r6).toNat) - 0) 0 ([]:List (List (List (List Nat)))) >>= fun l5 =>
  some ((⟨l5,l2⟩:T_api_VSSResult),r5.2.1,r5.2.2)
def vss_Share (a:T_network_Net) (b:List (List (List Nat))):Option (T_api_VSSResult × Int × (List (List T_api_Event)) × (List T_tape_Tape)) :=
  vssdeal_Distribute a b >>= fun r1 =>
  vss_Complete (⟨a.zw,r1.2.1,r1.2.2.1,r1.2.2.2⟩:T_network_Net) r1.1 >>= fun r2 =>
  some (r2.1,r2.2.1,r2.2.2,r1.2.2.2)
def privityref14_Below_L1 (a:Nat) (x1:List Nat) (k2:Nat):Option (Out Unit Bool) :=
  x1[k2]? >>= fun x2 =>
  bif decide (((x2:Nat):Int) ≥ ((a:Nat):Int)) then
    some (.fin false)
  else
    some (.go ())
def privityref14_Below_L0 (a:Nat) (b:List (List Nat)) (c:Int) (k1:Nat):Option (Out Unit Bool) :=
  b[k1]? >>= fun x1 =>
  bif decide (((x1.length:Nat):Int) > c) then
    some (.fin false)
  else
    rgO (fun k2 (st:Unit)=>privityref14_Below_L1 a x1 k2) (x1.length - 0) 0 () >>= fun r2=>outB r2 (fun x=>some (.fin x)) fun _ =>
    some (.go ())
def privityref14_Below (a:Nat) (b:List (List Nat)) (c:Int):Option Bool :=
  rgO (fun k1 (st:Unit)=>privityref14_Below_L0 a b c k1) (b.length - 0) 0 () >>= fun r1=>outB r1 (fun x=>some x) fun _ =>
  some true
def privityref19_Form_L2 (a:T_api_Params) (x3:List (List Nat)) (k3:Nat):Option (Out Unit Bool) :=
  x3[k3]? >>= fun x5 =>
  addI a.T (1:Int) >>= fun x6 =>
  bif ((x5.length:Nat):Int) != x6 then
    some (.fin false)
  else
    privityref14_Below a.P x3 x6 >>= fun r4 =>
    bif !r4 then
      some (.fin false)
    else
      some (.go ())
def privityref19_Form_L1 (a:T_api_Params) (b:List Int) (x2:List (List (List Nat))) (k2:Nat):Option (Out Unit Bool) :=
  x2[k2]? >>= fun x3 =>
  b[k2]? >>= fun x4 =>
  bif ((x3.length:Nat):Int) != x4 then
    some (.fin false)
  else
    ckN (max 0 (x4).toNat) >>= fun u2 =>
    rgO (fun k3 (st:Unit)=>privityref19_Form_L2 a x3 k3) ((max 0 (x4).toNat) - 0) 0 () >>= fun r3=>outB r3 (fun x=>some (.fin x)) fun _ =>
    some (.go ())
def privityref19_Form_L0 (a:T_api_Params) (b:T_api_VSSResult) (c:List Int) (k1:Nat):Option (Out Unit Bool) :=
  b.Rows[k1]? >>= fun x2 =>
  bif ((x2.length:Nat):Int) != a.N then
    some (.fin false)
  else
    rgO (fun k2 (st:Unit)=>privityref19_Form_L1 a c x2 k2) ((max 0 (a.N).toNat) - 0) 0 () >>= fun r2=>outB r2 (fun x=>some (.fin x)) fun _ =>
    some (.go ())
def privityref19_Form (a:T_api_Params) (b:T_api_VSSResult) (c:List Int):Option Bool :=
  (
    bif ((b.Rows.length:Nat):Int) != a.N then
      some true
    else
      bif ((b.Disqualified.length:Nat):Int) != a.N then
        some true
      else
        some (((c.length:Nat):Int) != a.N)
  ) >>= fun x1 =>
  bif x1 then
    some false
  else
    ckN (max 0 (a.N).toNat) >>= fun u1 =>
    rgO (fun k1 (st:Unit)=>privityref19_Form_L0 a b c k1) ((max 0 (a.N).toNat) - 0) 0 () >>= fun r1=>outB r1 (fun x=>some x) fun _ =>
    some true
def vss_SharingOf_L0 (a:T_api_VSSResult) (b:Int) (c:Int) (k1:Nat) (l1:List (List Nat)):Option (List (List Nat)) :=
  a.Rows[k1]? >>= fun x2 =>
  subI b (1:Int) >>= fun x3 =>
  idx x2 x3 >>= fun x4 =>
  idx x4 c >>= fun x5 =>
  appO 24 l1 ([x5]:List (List Nat)) >>= fun l3 =>
  some l3
def vss_SharingOf (a:T_api_VSSResult) (b:Int) (c:Int):Option (List (List Nat)) :=
  rgS (fun k1 (st:(List (List Nat)))=>vss_SharingOf_L0 a b c k1 st) (a.Rows.length - 0) 0 ([]:List (List Nat)) >>= fun l2 =>
  some l2
def privityref05_Same_L0 (a:List Nat) (b:List Nat) (k1:Nat):Option (Out Unit Bool) :=
  a[k1]? >>= fun x1 =>
  b[k1]? >>= fun x2 =>
  bif ((x1:Nat):Int) != ((x2:Nat):Int) then
    some (.fin false)
  else
    some (.go ())
def privityref05_Same (a:List Nat) (b:List Nat):Option Bool :=
  bif ((a.length:Nat):Int) != ((b.length:Nat):Int) then
    some false
  else
    rgO (fun k1 (st:Unit)=>privityref05_Same_L0 a b k1) (a.length - 0) 0 () >>= fun r1=>outB r1 (fun x=>some x) fun _ =>
    some true
def privityref05_SameRows_L0 (a:List (List Nat)) (b:List (List Nat)) (k1:Nat):Option (Out Unit Bool) :=
  a[k1]? >>= fun x1 =>
  b[k1]? >>= fun x2 =>
  privityref05_Same x1 x2 >>= fun r2 =>
  bif !r2 then
    some (.fin false)
  else
    some (.go ())
def privityref05_SameRows (a:List (List Nat)) (b:List (List Nat)):Option Bool :=
  bif ((a.length:Nat):Int) != ((b.length:Nat):Int) then
    some false
  else
    rgO (fun k1 (st:Unit)=>privityref05_SameRows_L0 a b k1) (a.length - 0) 0 () >>= fun r1=>outB r1 (fun x=>some x) fun _ =>
    some true
def privityref09_Same (a:List (List Nat)) (b:List (List Nat)):Option Bool :=
  privityref05_SameRows a b >>= fun r1 =>
  some r1
def network_Net_Rounds (a:T_network_Net):Option Int :=
  some a.zround
def privitylaw19_awake  : Option Bool :=
  privitylaw19_plain >>= fun r1 =>
  network_New r1.1 >>= fun r2 =>
  sumE r2 (fun r3 =>
    some false)
  (fun r4 =>
    vss_Share r4 r1.2 >>= fun r5 =>
    privityref19_Form r1.1.S r5.1 ([((1:Nat):Int),((0:Nat):Int),((0:Nat):Int),((0:Nat):Int)]:List Int) >>= fun r6 =>
    bif !r6 then
      some false
    else
      vss_SharingOf r5.1 ((1:Nat):Int) ((0:Nat):Int) >>= fun r7 =>
      privityref09_Same r7 ([([8,10]:List Nat),([11,17]:List Nat),([14,24]:List Nat),([17,0]:List Nat)]:List (List Nat)) >>= fun r8 =>
      bif r8 then
        r5.1.Disqualified[0]? >>= fun x1 =>
        bif !x1 then
          r5.1.Disqualified[3]? >>= fun x2 =>
          bif !x2 then
            network_Net_Rounds (⟨r4.zw,r5.2.1,r5.2.2.1,r5.2.2.2⟩:T_network_Net) >>= fun r9 =>
            some (r9 == (7:Int))
          else
            some false
        else
          some false
      else
        some false)
def privityref01_exps  : Option (List Int) :=
  some ([((5:Nat):Int),((7:Nat):Int),((13:Nat):Int),((17:Nat):Int),((19:Nat):Int),((31:Nat):Int),((61:Nat):Int)]:List Int)
def privityref01_Exponent_L0 (a:Nat) (r1:(List Int)) (k1:Nat):Option (Out Unit Int) :=
  r1[k1]? >>= fun x1 =>
  some (toU x1) >>= fun x2 =>
  shlU 1 ((x2:Nat):Int) >>= fun x3 =>
  some (subU x3 1) >>= fun x4 =>
  bif ((a:Nat):Int) == ((x4:Nat):Int) then
    some (.fin x1)
  else
    some (.go ())
def privityref01_Exponent (a:Nat):Option Int :=
  privityref01_exps >>= fun r1 =>
  rgO (fun k1 (st:Unit)=>privityref01_Exponent_L0 a r1 k1) (r1.length - 0) 0 () >>= fun r2=>outB r2 (fun x=>some x) fun _ =>
  some ((0:Nat):Int)
def privityref01_Supported (a:Nat):Option Bool :=
  privityref01_Exponent a >>= fun r1 =>
  some (decide (r1 > (0:Int)))
def privityref12_Valid (a:T_api_Params):Option Bool :=
  privityref01_Supported a.P >>= fun r1 =>
  bif r1 then
    bif decide (a.N ≥ (4:Int)) then
      bif decide (a.N≤(13:Int)) then
        some (toU a.N) >>= fun x1 =>
        bif decide (((x1:Nat):Int) < ((a.P:Nat):Int)) then
          bif decide (a.T ≥ (1:Int)) then
            bif decide (a.T < a.N) then
              mulI (3:Int) a.T >>= fun x2 =>
              some (decide (x2 < a.N))
            else
              some false
          else
            some false
        else
          some false
      else
        some false
    else
      some false
  else
    some false
def privityref12_ValidCoalition_L0 (a:T_api_Params) (b:List Int) (k1:Nat):Option (Out Unit Bool) :=
  b[k1]? >>= fun x2 =>
  bif decide (x2 < (1:Int)) then
    some (.fin false)
  else
    bif decide (x2 > a.N) then
      some (.fin false)
    else
      bif decide (((k1:Nat):Int) > (0:Int)) then
        subI ((k1:Nat):Int) (1:Int) >>= fun x3 =>
        idx b x3 >>= fun x4 =>
        bif decide (x2≤x4) then
          some (.fin false)
        else
          some (.go ())
      else
        some (.go ())
def privityref12_ValidCoalition (a:T_api_Params) (b:List Int):Option Bool :=
  (
    privityref12_Valid a >>= fun r1 =>
    bif !r1 then
      some true
    else
      some (decide (((b.length:Nat):Int) > a.T))
  ) >>= fun x1 =>
  bif x1 then
    some false
  else
    rgO (fun k1 (st:Unit)=>privityref12_ValidCoalition_L0 a b k1) (b.length - 0) 0 () >>= fun r2=>outB r2 (fun x=>some x) fun _ =>
    some true
def privityref12_Deviation (a:T_api_Params) (b:T_api_Deviation):Option Bool :=
  bif decide (b.Round ≥ (0:Int)) then
    bif decide (b.At ≥ (0:Int)) then
      bif decide (b.SrcIndex ≥ (0:Int)) then
        bif decide (b.From ≥ (1:Int)) then
          bif decide (b.From≤a.N) then
            bif decide (b.To ≥ (0:Int)) then
              bif decide (b.To≤a.N) then
                bif decide (b.Kind ≥ (1:Int)) then
                  bif decide (b.Kind≤(4:Int)) then
                    bif decide (b.Of ≥ (0:Int)) then
                      bif decide (b.Of≤a.N) then
                        bif b.Kind != (3:Int) then
                          some true
                        else
                          some (decide (b.Of ≥ (1:Int)))
                      else
                        some false
                    else
                      some false
                  else
                    some false
                else
                  some false
              else
                some false
            else
              some false
          else
            some false
        else
          some false
      else
        some false
    else
      some false
  else
    some false
def privityref05_Below_L0 (a:Nat) (b:List Nat) (k1:Nat):Option (Out Unit Bool) :=
  b[k1]? >>= fun x1 =>
  bif decide (((x1:Nat):Int) ≥ ((a:Nat):Int)) then
    some (.fin false)
  else
    some (.go ())
def privityref05_Below (a:Nat) (b:List Nat):Option Bool :=
  rgO (fun k1 (st:Unit)=>privityref05_Below_L0 a b k1) (b.length - 0) 0 () >>= fun r1=>outB r1 (fun x=>some x) fun _ =>
  some true
def privityref12_ValidScenario_L0 (a:T_api_Scenario) (k1:Nat):Option (Out Unit Bool) :=
  a.Deviations[k1]? >>= fun x2 =>
  privityref12_Deviation a.S x2 >>= fun r4 =>
  bif !r4 then
    some (.fin false)
  else
    some (.go ())
def privityref12_ValidScenario_L1 (a:T_api_Scenario) (k2:Nat):Option (Out Unit Bool) :=
  a.Tapes[k2]? >>= fun x3 =>
  privityref05_Below a.S.P x3 >>= fun r6 =>
  bif !r6 then
    some (.fin false)
  else
    some (.go ())
def privityref12_ValidScenario (a:T_api_Scenario):Option Bool :=
  (
    privityref12_Valid a.S >>= fun r1 =>
    bif !r1 then
      some true
    else
      privityref12_ValidCoalition a.S a.Corrupt >>= fun r2 =>
      bif !r2 then
        some true
      else
        some (((a.Tapes.length:Nat):Int) != a.S.N)
  ) >>= fun x1 =>
  bif x1 then
    some false
  else
    rgO (fun k1 (st:Unit)=>privityref12_ValidScenario_L0 a k1) (a.Deviations.length - 0) 0 () >>= fun r3=>outB r3 (fun x=>some x) fun _ =>
    rgO (fun k2 (st:Unit)=>privityref12_ValidScenario_L1 a k2) (a.Tapes.length - 0) 0 () >>= fun r5=>outB r5 (fun x=>some x) fun _ =>
    some true
def privityref12_Light_L0 (a:T_api_Scenario) (b:Int) (k1:Nat):Option (Out Unit Bool) :=
  a.Tapes[k1]? >>= fun x2 =>
  bif decide (((x2.length:Nat):Int) > b) then
    some (.fin false)
  else
    some (.go ())
def privityref12_Light (a:T_api_Scenario) (b:Int) (c:Int) (d:Int):Option Bool :=
  (
    bif decide (a.S.N > b) then
      some true
    else
      bif decide (((a.Deviations.length:Nat):Int) > c) then
        some true
      else
        some (decide (((a.Tapes.length:Nat):Int) > b))
  ) >>= fun x1 =>
  bif x1 then
    some false
  else
    rgO (fun k1 (st:Unit)=>privityref12_Light_L0 a d k1) (a.Tapes.length - 0) 0 () >>= fun r1=>outB r1 (fun x=>some x) fun _ =>
    privityref12_ValidScenario a >>= fun r2 =>
    some r2
def privityref19_Rest (a:T_api_Params):Option Int :=
  addI a.T (1:Int) >>= fun x1 =>
  mulI a.T x1 >>= fun x2 =>
  divI x2 (2:Int) >>= fun x3 =>
  some x3
def privityref19_Fair_L1 (a:T_api_Scenario) (b:List (List (List Nat))) (k1:Nat) (x6:Int):Option (Out Int (Bool ⊕ Unit)) :=
  b[k1]? >>= fun x7 =>
  bif decide (x6 < ((x7.length:Nat):Int)) then
    idx x7 x6 >>= fun x8 =>
    addI a.S.T (1:Int) >>= fun x9 =>
    bif ((x8.length:Nat):Int) != x9 then
      some (.fin (.inl false))
    else
      privityref14_Below a.S.P x7 x9 >>= fun r5 =>
      bif !r5 then
        some (.fin (.inl false))
      else
        addI x6 (1:Int) >>= fun x10 =>
        some (.go x10)
  else
    some (.fin (.inr ()))
def privityref19_Fair_L0 (a:T_api_Scenario) (b:List (List (List Nat))) (c:Int) (k1:Nat):Option (Out Unit Bool) :=
  (
    b[k1]? >>= fun x3 =>
    bif decide (((x3.length:Nat):Int) > c) then
      some true
    else
      a.Tapes[k1]? >>= fun x4 =>
      privityref19_Rest a.S >>= fun r3 =>
      mulI ((x3.length:Nat):Int) r3 >>= fun x5 =>
      some (decide (((x4.length:Nat):Int) < x5))
  ) >>= fun x2 =>
  bif x2 then
    some (.fin false)
  else
    lpO (fun (st:Int)=>privityref19_Fair_L1 a b k1 st) big ((0:Nat):Int) >>= fun r4=>sumB r4 (fun x=>some (.fin x)) fun _ =>
    some (.go ())
def privityref19_Fair (a:T_api_Scenario) (b:List (List (List Nat))) (c:Int) (d:Int) (e:Int):Option Bool :=
  (
    privityref12_Light a c d ((60:Nat):Int) >>= fun r1 =>
    bif !r1 then
      some true
    else
      some (((b.length:Nat):Int) != a.S.N)
  ) >>= fun x1 =>
  bif x1 then
    some false
  else
    rgO (fun k1 (st:Unit)=>privityref19_Fair_L0 a b e k1) (b.length - 0) 0 () >>= fun r2=>outB r2 (fun x=>some x) fun _ =>
    some true
def privityref19_Many_L0 (a:List (List (List Nat))) (k1:Nat) (l1:List Int):Option (List Int) :=
  a[k1]? >>= fun x2 =>
  appO 8 l1 ([((x2.length:Nat):Int)]:List Int) >>= fun l3 =>
  some l3
def privityref19_Many (a:List (List (List Nat))):Option (List Int) :=
  rgS (fun k1 (st:(List Int))=>privityref19_Many_L0 a k1 st) (a.length - 0) 0 ([]:List Int) >>= fun l2 =>
  some l2
def privitylaw19_run (a:T_privitylaw19_Play):Option (T_api_VSSResult ⊕ (T_network_Net × T_api_VSSResult × Bool)) :=
  network_New a.W >>= fun r1 =>
  sumE r1 (fun r2 =>
    some (.inl (⟨([]:List (List (List (List Nat)))),([]:List Bool)⟩:T_api_VSSResult)))
  (fun r3 =>
    vss_Share r3 a.Q >>= fun r4 =>
    privityref19_Many a.Q >>= fun r5 =>
    privityref19_Form a.W.S r4.1 r5 >>= fun r6 =>
    some (.inr ((⟨r3.zw,r4.2.1,r4.2.2.1,r4.2.2.2⟩:T_network_Net),r4.1,r6)))
def privityref12_In_L0 (a:List Int) (b:Int) (k1:Nat):Option (Out Unit Bool) :=
  a[k1]? >>= fun x1 =>
  bif x1 == b then
    some (.fin true)
  else
    some (.go ())
def privityref12_In (a:List Int) (b:Int):Option Bool :=
  rgO (fun k1 (st:Unit)=>privityref12_In_L0 a b k1) (a.length - 0) 0 () >>= fun r1=>outB r1 (fun x=>some x) fun _ =>
  some false
def privityref12_HonestParties_L0 (a:List Int) (k1:Nat) (l1:List Int):Option (List Int) :=
  privityref12_In a ((k1:Nat):Int) >>= fun r2 =>
  bif !r2 then
    appO 8 l1 ([((k1:Nat):Int)]:List Int) >>= fun l3 =>
    some l3
  else
    some l1
def privityref12_HonestParties (a:T_api_Params) (b:List Int):Option (List Int) :=
  ckN (max 1 (a.N+1).toNat) >>= fun u1 =>
  rgS (fun k1 (st:(List Int))=>privityref12_HonestParties_L0 b k1 st) ((max 1 (a.N+1).toNat) - 1) 1 ([]:List Int) >>= fun l2 =>
  some l2
def privityref10_New_L0 (x6:Int) (k1:Nat) (l2:List (List Nat)):Option (List (List Nat)) :=
  mkO 8 x6 x6 (0:Nat) >>= fun l4 =>
  l2[k1]? >>= fun x8 =>
  some (l2.set k1 l4) >>= fun l5 =>
  some l5
def privityref10_New_L2 (a:List Nat) (x1:Int) (k2:Nat) (l12:List (List Nat)) (x19:Int) (x20:Int):Option (Out ((List (List Nat)) × Int × Int) ((List (List Nat)) × Int)) :=
  (
    bif decide (x20≤x1) then
      some (decide (((k2:Nat):Int) > (0:Int)))
    else
      some false
  ) >>= fun x23 =>
  bif x23 then
    l12[k2]? >>= fun x24 =>
    idx l12 x20 >>= fun x25 =>
    idx a x19 >>= fun x26 =>
    idx x24 x20 >>= fun x27 =>
    some (x24.set x20.toNat x26) >>= fun l15 =>
    some (l12.set k2 l15) >>= fun l16 =>
    x25[k2]? >>= fun x28 =>
    idx l16 x20 >>= fun x29 =>
    x29[k2]? >>= fun x30 =>
    some (x29.set k2 x26) >>= fun l17 =>
    some (l16.set x20.toNat l17) >>= fun l18 =>
    addI x19 (1:Int) >>= fun x31 =>
    addI x20 (1:Int) >>= fun x32 =>
    some (.go (l18,x31,x32))
  else
    some (.fin (l12,x19))
def privityref10_New_L1 (a:List Nat) (b:List Nat) (x1:Int) (k2:Nat) (l6:List (List Nat)) (x9:Int):Option ((List (List Nat)) × Int) :=
  l6[0]? >>= fun x12 =>
  l6[k2]? >>= fun x13 =>
  a[k2]? >>= fun x14 =>
  x12[k2]? >>= fun x15 =>
  some (x12.set k2 x14) >>= fun l8 =>
  some (l6.set 0 l8) >>= fun l9 =>
  x13[0]? >>= fun x16 =>
  l9[k2]? >>= fun x17 =>
  x17[0]? >>= fun x18 =>
  some (x17.set 0 x14) >>= fun l10 =>
  some (l9.set k2 l10) >>= fun l11 =>
  lpO (fun (st:(List (List Nat)) × Int × Int)=>privityref10_New_L2 b x1 k2 st.1 st.2.1 st.2.2) big (l11,x9,((k2:Nat):Int)) >>= fun (l14,x22) =>
  some (l14,x22)
def privityref10_New (a:List Nat) (b:List Nat):Option ((List (List Nat)) × Int) :=
  subI ((a.length:Nat):Int) (1:Int) >>= fun x1 =>
  (
    bif decide (x1 < (0:Int)) then
      some true
    else
      addI x1 (1:Int) >>= fun x3 =>
      mulI x1 x3 >>= fun x4 =>
      divI x4 (2:Int) >>= fun x5 =>
      some (((b.length:Nat):Int) != x5)
  ) >>= fun x2 =>
  bif x2 then
    some (([]:List (List Nat)),((1:Nat):Int))
  else
    addI x1 (1:Int) >>= fun x6 =>
    mkO 24 x6 x6 ([]:List Nat) >>= fun l1 =>
    ckN (max 0 (x1+1).toNat) >>= fun u1 =>
    rgS (fun k1 (st:(List (List Nat)))=>privityref10_New_L0 x6 k1 st) ((max 0 (x1+1).toNat) - 0) 0 l1 >>= fun l3 =>
    rgS (fun k2 (st:(List (List Nat)) × Int)=>privityref10_New_L1 a b x1 k2 st.1 st.2) ((max 0 (x1+1).toNat) - 0) 0 (l3,((0:Nat):Int)) >>= fun (l7,x11) =>
    some (l7,((0:Nat):Int))
def privityref01_Mul_L0 (a:Nat) (x1:Nat) (x2:Nat) (x3:Nat):Option (Out (Nat × Nat × Nat) Nat) :=
  bif decide (((x2:Nat):Int) > (0:Int)) then
    remU x2 2 >>= fun x6 =>
    bif ((x6:Nat):Int) == (1:Int) then
      some (addU x3 x1) >>= fun x7 =>
      remU x7 a >>= fun x8 =>
      some (addU x1 x1) >>= fun x9 =>
      remU x9 a >>= fun x10 =>
      divU x2 2 >>= fun x11 =>
      some (.go (x10,x11,x8))
    else
      some (addU x1 x1) >>= fun x12 =>
      remU x12 a >>= fun x13 =>
      divU x2 2 >>= fun x14 =>
      some (.go (x13,x14,x3))
  else
    some (.fin x3)
def privityref01_Mul (a:Nat) (b:Nat) (c:Nat):Option Nat :=
  lpO (fun (st:Nat × Nat × Nat)=>privityref01_Mul_L0 a st.1 st.2.1 st.2.2) big (b,c,0) >>= fun x5 =>
  some x5
def privityref01_Add (a:Nat) (b:Nat) (c:Nat):Option Nat :=
  some (addU b c) >>= fun x1 =>
  remU x1 a >>= fun x2 =>
  some x2
def privityref10_Value_L0 (a:Nat) (b:List Nat) (c:Nat) (x2:Nat) (x3:Int):Option (Out (Nat × Int) Nat) :=
  bif decide (x3 ≥ (0:Int)) then
    privityref01_Mul a x2 c >>= fun r2 =>
    idx b x3 >>= fun x6 =>
    privityref01_Add a r2 x6 >>= fun r3 =>
    subI x3 (1:Int) >>= fun x7 =>
    some (.go (r3,x7))
  else
    some (.fin x2)
def privityref10_Value (a:Nat) (b:List Nat) (c:Nat):Option Nat :=
  subI ((b.length:Nat):Int) (1:Int) >>= fun x1 =>
  lpO (fun (st:Nat × Int)=>privityref10_Value_L0 a b c st.1 st.2) big (0,x1) >>= fun x5 =>
  some x5
def privityref10_Row_L1 (a:List (List Nat)) (k1:Nat) (k2:Nat) (l3:List Nat):Option (List Nat) :=
  a[k2]? >>= fun x3 =>
  x3[k1]? >>= fun x4 =>
  appO 8 l3 ([x4]:List Nat) >>= fun l5 =>
  some l5
def privityref10_Row_L0 (a:Nat) (b:List (List Nat)) (c:Nat) (k1:Nat) (l1:List Nat):Option (List Nat) :=
  rgS (fun k2 (st:(List Nat))=>privityref10_Row_L1 b k1 k2 st) (b.length - 0) 0 ([]:List Nat) >>= fun l4 =>
  privityref10_Value a l4 c >>= fun r3 =>
  appO 8 l1 ([r3]:List Nat) >>= fun l6 =>
  some l6
def privityref10_Row (a:Nat) (b:List (List Nat)) (c:Nat):Option (List Nat) :=
  rgS (fun k1 (st:(List Nat))=>privityref10_Row_L0 a b c k1 st) (b.length - 0) 0 ([]:List Nat) >>= fun l2 =>
  some l2
def network_Net_View (a:T_network_Net) (b:Int):Option (List T_api_Event) :=
  subI b (1:Int) >>= fun x1 =>
  idx a.zviews x1 >>= fun x2 =>
  appO 40 ([]:List T_api_Event) x2 >>= fun l1 =>
  some l1
def privityref04_Trim_L0 (a:List Nat) (x1:Int):Option (Out Int Int) :=
  bif decide (x1 > (0:Int)) then
    subI x1 (1:Int) >>= fun x4 =>
    idx a x4 >>= fun x5 =>
    bif ((x5:Nat):Int) == (0:Int) then
      some (.go x4)
    else
      some (.fin x1)
  else
    some (.fin x1)
def privityref04_Trim (a:List Nat):Option (List Nat) :=
  lpO (fun (st:Int)=>privityref04_Trim_L0 a st) big ((a.length:Nat):Int) >>= fun x3 =>
  cutO a (0:Int) x3 >>= fun l1 =>
  appO 8 ([]:List Nat) l1 >>= fun l2 =>
  some l2
def shamir_placed_L0 (a:List T_api_Point) (k1:Nat) (l1:List (Int × Bool)):Option (Out (List (Int × Bool)) Bool) :=
  a[k1]? >>= fun x2 =>
  bif (mgetO l1 ((x2.X:Nat):Int)).getD false then
    some (.fin false)
  else
    some (.go (mput l1 ((x2.X:Nat):Int) true))
def shamir_placed (a:List T_api_Point):Option Bool :=
  rgO (fun k1 (st:(List (Int × Bool)))=>shamir_placed_L0 a k1 st) (a.length - 0) 0 (mput ([]:List (Int × Bool)) (0:Int) true) >>= fun r1=>outB r1 (fun x=>some x) fun l2 =>
  some true
def math_bits_Len (a:Nat):Option Int :=
  math_bits_Len64 a >>= fun r1 =>
  some r1
def cmp_isNaN_uint64 (a:Nat):Option Bool :=
  some (((a:Nat):Int) != ((a:Nat):Int))
def cmp_Less_uint64 (a:Nat) (b:Nat):Option Bool :=
  cmp_isNaN_uint64 a >>= fun r1 =>
  bif r1 then
    cmp_isNaN_uint64 b >>= fun r2 =>
    bif !r2 then
      some true
    else
      some (decide (((a:Nat):Int) < ((b:Nat):Int)))
  else
    some (decide (((a:Nat):Int) < ((b:Nat):Int)))
def slices_insertionSortOrdered_uint64_L1 (a:Int) (l4:List Nat) (x3:Int):Option (Out ((List Nat) × Int) (List Nat)) :=
  (
    bif decide (x3 > a) then
      idx l4 x3 >>= fun x5 =>
      subI x3 (1:Int) >>= fun x6 =>
      idx l4 x6 >>= fun x7 =>
      cmp_Less_uint64 x5 x7 >>= fun r3 =>
      some r3
    else
      some false
  ) >>= fun x4 =>
  bif x4 then
    subI x3 (1:Int) >>= fun x8 =>
    idx l4 x8 >>= fun x9 =>
    idx l4 x3 >>= fun x10 =>
    some (l4.set x3.toNat x9) >>= fun l7 =>
    idx l7 x8 >>= fun x11 =>
    some (l7.set x8.toNat x10) >>= fun l8 =>
    some (.go (l8,x8))
  else
    some (.fin l4)
def slices_insertionSortOrdered_uint64_L0 (a:Int) (b:Int) (l1:List Nat) (x2:Int):Option (Out ((List Nat) × Int) (List Nat)) :=
  bif decide (x2 < b) then
    lpO (fun (st:(List Nat) × Int)=>slices_insertionSortOrdered_uint64_L1 a st.1 st.2) big (l1,x2) >>= fun l6 =>
    addI x2 (1:Int) >>= fun x12 =>
    some (.go (l6,x12))
  else
    some (.fin l1)
def slices_insertionSortOrdered_uint64 (a:List Nat) (b:Int) (c:Int):Option (List Nat) :=
  addI b (1:Int) >>= fun x1 =>
  lpO (fun (st:(List Nat) × Int)=>slices_insertionSortOrdered_uint64_L0 b c st.1 st.2) big (a,x1) >>= fun l3 =>
  some l3
def slices_pdqsortOrdered_uint64_L0 (a:List Nat) (b:Int) (c:Int):Option (Out Unit ((List Nat) ⊕ Unit)) :=
  subI c b >>= fun x1 =>
  bif decide (x1≤(12:Int)) then
    slices_insertionSortOrdered_uint64 a b c >>= fun r2 =>
    some (.fin (.inl r2))
  else
    none
def slices_pdqsortOrdered_uint64 (a:List Nat) (b:Int) (c:Int) (d:Int):Option (List Nat) :=
  lpO (fun (st:Unit)=>slices_pdqsortOrdered_uint64_L0 a b c) big () >>= fun r1=>sumB r1 (fun x=>some x) fun _ =>
  none
def slices_Sort_Luint64_uint64 (a:List Nat):Option (List Nat) :=
  some (toU ((a.length:Nat):Int)) >>= fun x1 =>
  math_bits_Len x1 >>= fun r1 =>
  slices_pdqsortOrdered_uint64 a ((0:Nat):Int) ((a.length:Nat):Int) r1 >>= fun r2 =>
  some r2
def slices_Compact_Luint64_uint64_L0 (a:List Nat) (x1:Int):Option (Out Int Unit) :=
  bif decide (x1 < ((a.length:Nat):Int)) then
    idx a x1 >>= fun x2 =>
    subI x1 (1:Int) >>= fun x3 =>
    idx a x3 >>= fun x4 =>
    bif ((x2:Nat):Int) == ((x4:Nat):Int) then
      none
    else
      addI x1 (1:Int) >>= fun x5 =>
      some (.go x5)
  else
    some (.fin ())
def slices_Compact_Luint64_uint64 (a:List Nat):Option (List Nat) :=
  bif decide (((a.length:Nat):Int) < (2:Int)) then
    some a
  else
    lpO (fun (st:Int)=>slices_Compact_Luint64_uint64_L0 a st) big ((1:Nat):Int) >>= fun _ =>
    some a
def interpolate_unlike (a:List Nat):Option Bool :=
  slices_Clone_Luint64_uint64 a >>= fun r1 =>
  slices_Sort_Luint64_uint64 r1 >>= fun r2 =>
  slices_Compact_Luint64_uint64 r2 >>= fun r3 =>
  some (((r3.length:Nat):Int) == ((a.length:Nat):Int))
def field_Neg (a:Nat) (b:Nat):Option Nat :=
  bif ((b:Nat):Int) == (0:Int) then
    some 0
  else
    some (subU a b) >>= fun x1 =>
    some x1
def poly_sum_put_L0 (a:Int) (l1:List Nat):Option (Out (List Nat) (List Nat)) :=
  bif decide (((l1.length:Nat):Int)≤a) then
    appO 8 l1 ([0]:List Nat) >>= fun l4 =>
    some (.go l4)
  else
    some (.fin l1)
def poly_sum_put (a:T_poly_sum) (b:Int) (c:Nat):Option (List Nat) :=
  lpO (fun (st:(List Nat))=>poly_sum_put_L0 b st) big a.zf >>= fun l3 =>
  idx l3 b >>= fun x1 =>
  field_Add a.zp x1 c >>= fun r2 =>
  some (l3.set b.toNat r2) >>= fun l5 =>
  some l5
def poly_Degree_L0 (a:List Nat) (x2:Int):Option (Out Int (Int ⊕ Unit)) :=
  bif decide (x2 ≥ (0:Int)) then
    idx a x2 >>= fun x3 =>
    bif ((x3:Nat):Int) != (0:Int) then
      some (.fin (.inl x2))
    else
      subI x2 (1:Int) >>= fun x4 =>
      some (.go x4)
  else
    some (.fin (.inr ()))
def poly_Degree (a:List Nat):Option Int :=
  subI ((a.length:Nat):Int) (1:Int) >>= fun x1 =>
  lpO (fun (st:Int)=>poly_Degree_L0 a st) big x1 >>= fun r1=>sumB r1 (fun x=>some x) fun _ =>
  some (-1)
def poly_Trim (a:List Nat):Option (List Nat) :=
  poly_Degree a >>= fun r1 =>
  addI r1 (1:Int) >>= fun x1 =>
  cutO a (0:Int) x1 >>= fun l1 =>
  appO 8 ([]:List Nat) l1 >>= fun l2 =>
  some l2
def poly_Mul_L1 (a:Nat) (b:List Nat) (k1:Nat) (x2:Nat) (k2:Nat) (l3:List Nat):Option (List Nat) :=
  b[k2]? >>= fun x4 =>
  addI ((k1:Nat):Int) ((k2:Nat):Int) >>= fun x5 =>
  field_Mul a x2 x4 >>= fun r3 =>
  poly_sum_put (⟨a,l3⟩:T_poly_sum) x5 r3 >>= fun r4 =>
  some r4
def poly_Mul_L0 (a:Nat) (b:List Nat) (c:List Nat) (k1:Nat) (l1:List Nat):Option (List Nat) :=
  b[k1]? >>= fun x2 =>
  rgS (fun k2 (st:(List Nat))=>poly_Mul_L1 a c k1 x2 k2 st) (c.length - 0) 0 l1 >>= fun l4 =>
  some l4
def poly_Mul (a:Nat) (b:List Nat) (c:List Nat):Option (List Nat) :=
  rgS (fun k1 (st:(List Nat))=>poly_Mul_L0 a b c k1 st) (b.length - 0) 0 ([]:List Nat) >>= fun l2 =>
  poly_Trim l2 >>= fun r5 =>
  some r5
def field_Sub (a:Nat) (b:Nat) (c:Nat):Option Nat :=
  field_Neg a c >>= fun r1 =>
  field_Add a b r1 >>= fun r2 =>
  some r2
def interpolate_Polynomial_1 (a:Nat) (b:Nat) (c:List Nat) (d:Nat) (e:T_api_Point):Option ((List Nat) × Nat) :=
  field_Neg b a >>= fun r1 =>
  poly_Mul b c ([r1,1]:List Nat) >>= fun r2 =>
  field_Sub b e.X a >>= fun r3 =>
  field_Mul b d r3 >>= fun r4 =>
  some (r2,r4)
def interpolate_others_interpolate_Polynomial_1_L0 (a:List Nat) (b:Int) (c:Nat) (d:T_api_Point) (k1:Nat) (l1:List Nat) (x1:Nat):Option ((List Nat) × Nat) :=
  a[k1]? >>= fun x4 =>
  bif ((k1:Nat):Int) != b then
    interpolate_Polynomial_1 x4 c l1 x1 d >>= fun r2 =>
    some (r2.1,r2.2)
  else
    some (l1,x1)
def interpolate_others_interpolate_Polynomial_1 (a:List Nat) (b:Int) (c:Nat) (d:List Nat) (e:Nat) (f:T_api_Point):Option ((List Nat) × Nat) :=
  rgS (fun k1 (st:(List Nat) × Nat)=>interpolate_others_interpolate_Polynomial_1_L0 a b c f k1 st.1 st.2) (a.length - 0) 0 (d,e) >>= fun (l2,x3) =>
  some (l2,x3)
def field_Pow_L0 (a:Nat) (x1:Nat) (x2:Nat) (x3:Nat):Option (Out (Nat × Nat × Nat) Nat) :=
  bif decide (((x2:Nat):Int) > (0:Int)) then
    some (andU x2 1) >>= fun x6 =>
    bif ((x6:Nat):Int) == (1:Int) then
      field_Mul a x3 x1 >>= fun r2 =>
      field_Mul a x1 x1 >>= fun r3 =>
      shrU x2 (1:Int) >>= fun x7 =>
      some (.go (r3,x7,r2))
    else
      field_Mul a x1 x1 >>= fun r4 =>
      shrU x2 (1:Int) >>= fun x8 =>
      some (.go (r4,x8,x3))
  else
    some (.fin x3)
def field_Pow (a:Nat) (b:Nat) (c:Nat):Option Nat :=
  lpO (fun (st:Nat × Nat × Nat)=>field_Pow_L0 a st.1 st.2.1 st.2.2) big (b,c,1) >>= fun x5 =>
  some x5
def field_Inverse (a:Nat) (b:Nat):Option (Nat × Int) :=
  bif ((b:Nat):Int) == (0:Int) then
    some (0,((8:Nat):Int))
  else
    some (subU a 2) >>= fun x1 =>
    field_Pow a b x1 >>= fun r1 =>
    some (r1,((0:Nat):Int))
def interpolate_over (a:Nat) (b:Nat) (c:Nat):Option Nat :=
  field_Inverse a c >>= fun r1 =>
  field_Mul a b r1.1 >>= fun r2 =>
  some r2
def poly_Scale_L0 (a:Nat) (b:Nat) (c:List Nat) (k1:Nat) (l2:List Nat):Option (List Nat) :=
  c[k1]? >>= fun x2 =>
  field_Mul a b x2 >>= fun r2 =>
  l2[k1]? >>= fun x3 =>
  some (l2.set k1 r2) >>= fun l4 =>
  some l4
def poly_Scale (a:Nat) (b:Nat) (c:List Nat):Option (List Nat) :=
  mkO 8 ((c.length:Nat):Int) ((c.length:Nat):Int) (0:Nat) >>= fun l1 =>
  rgS (fun k1 (st:(List Nat))=>poly_Scale_L0 a b c k1 st) (c.length - 0) 0 l1 >>= fun l3 =>
  poly_Trim l3 >>= fun r3 =>
  some r3
def poly_Add_L0 (a:Nat) (b:List Nat) (k1:Nat) (l1:List Nat):Option (List Nat) :=
  b[k1]? >>= fun x2 =>
  poly_sum_put (⟨a,l1⟩:T_poly_sum) ((k1:Nat):Int) x2 >>= fun r2 =>
  some r2
def poly_Add_L1 (a:Nat) (b:List Nat) (k2:Nat) (l3:List Nat):Option (List Nat) :=
  b[k2]? >>= fun x4 =>
  poly_sum_put (⟨a,l3⟩:T_poly_sum) ((k2:Nat):Int) x4 >>= fun r4 =>
  some r4
def poly_Add (a:Nat) (b:List Nat) (c:List Nat):Option (List Nat) :=
  rgS (fun k1 (st:(List Nat))=>poly_Add_L0 a b k1 st) (b.length - 0) 0 ([]:List Nat) >>= fun l2 =>
  rgS (fun k2 (st:(List Nat))=>poly_Add_L1 a c k2 st) (c.length - 0) 0 l2 >>= fun l4 =>
  poly_Trim l4 >>= fun r5 =>
  some r5
def interpolate_Polynomial_L0 (a:List T_api_Point) (k1:Nat) (l1:List Nat):Option (List Nat) :=
  a[k1]? >>= fun x2 =>
  appO 8 l1 ([x2.X]:List Nat) >>= fun l3 =>
  some l3
def interpolate_Polynomial_L1 (a:Nat) (b:List T_api_Point) (l2:List Nat) (k2:Nat) (l4:List Nat):Option (List Nat) :=
  b[k2]? >>= fun x4 =>
  interpolate_others_interpolate_Polynomial_1 l2 ((k2:Nat):Int) a ([1]:List Nat) 1 x4 >>= fun r4 =>
  interpolate_over a x4.Y r4.2 >>= fun r5 =>
  poly_Scale a r5 r4.1 >>= fun r6 =>
  poly_Add a l4 r6 >>= fun r7 =>
  some r7
def interpolate_Polynomial (a:Nat) (b:List T_api_Point):Option ((List Nat) × Int) :=
  rgS (fun k1 (st:(List Nat))=>interpolate_Polynomial_L0 b k1 st) (b.length - 0) 0 ([]:List Nat) >>= fun l2 =>
  interpolate_unlike l2 >>= fun r2 =>
  bif !r2 then
    some (([]:List Nat),((1:Nat):Int))
  else
    rgS (fun k2 (st:(List Nat))=>interpolate_Polynomial_L1 a b l2 k2 st) (b.length - 0) 0 ([]:List Nat) >>= fun l5 =>
    poly_Trim l5 >>= fun r8 =>
    some (r8,((0:Nat):Int))
def poly_Coefficient (a:List Nat) (b:Int):Option Nat :=
  bif decide (b < (0:Int)) then
    some 0
  else
    bif decide (b ≥ ((a.length:Nat):Int)) then
      some 0
    else
      idx a b >>= fun x1 =>
      some x1
def shamir_Reconstruct (a:Nat) (b:Int) (c:List T_api_Point):Option (Nat × Int) :=
  (
    bif decide (b < (0:Int)) then
      some true
    else
      shamir_placed c >>= fun r1 =>
      bif !r1 then
        some true
      else
        some (decide (((c.length:Nat):Int)≤b))
  ) >>= fun x1 =>
  bif x1 then
    some (0,((1:Nat):Int))
  else
    interpolate_Polynomial a c >>= fun r2 =>
    bif r2.2 != (0:Int) then
      some (0,r2.2)
    else
      poly_Degree r2.1 >>= fun r3 =>
      bif decide (r3 > b) then
        some (0,((9:Nat):Int))
      else
        poly_Coefficient r2.1 ((0:Nat):Int) >>= fun r4 =>
        some (r4,((0:Nat):Int))
def privitylaw19_VSSHonestSharesReconstruct_L2 (r6:(List Int)) (r9:(List (List Nat))) (k2:Nat) (l1:List T_api_Point):Option (List T_api_Point) :=
  r6[k2]? >>= fun x6 =>
  some (toU x6) >>= fun x7 =>
  subI x6 (1:Int) >>= fun x8 =>
  idx r9 x8 >>= fun x9 =>
  x9[0]? >>= fun x10 =>
  appO 16 l1 ([(⟨x7,x10⟩:T_api_Point)]:List T_api_Point) >>= fun l3 =>
  some l3
def privityref12_ExtendCoalition_L0 (a:List Int) (k1:Nat) (x2:Int) (l1:List Int):Option (Int × (List Int)) :=
  privityref12_In a ((k1:Nat):Int) >>= fun r2 =>
  bif r2 then
    appO 8 l1 ([((k1:Nat):Int)]:List Int) >>= fun l3 =>
    some (x2,l3)
  else
    bif decide (x2 > (0:Int)) then
      appO 8 l1 ([((k1:Nat):Int)]:List Int) >>= fun l4 =>
      subI x2 (1:Int) >>= fun x5 =>
      some (x5,l4)
    else
      some (x2,l1)
def privityref12_ExtendCoalition (a:T_api_Params) (b:List Int):Option (List Int) :=
  subI a.T ((b.length:Nat):Int) >>= fun x1 =>
  ckN (max 1 (a.N+1).toNat) >>= fun u1 =>
  rgS (fun k1 (st:Int × (List Int))=>privityref12_ExtendCoalition_L0 b k1 st.1 st.2) ((max 1 (a.N+1).toNat) - 1) 1 (x1,([]:List Int)) >>= fun (x4,l2) =>
  some l2
def privityref01_Pow_L0 (a:Nat) (x1:Nat) (x2:Nat) (x3:Nat):Option (Out (Nat × Nat × Nat) Nat) :=
  bif decide (((x2:Nat):Int) > (0:Int)) then
    remU x2 2 >>= fun x6 =>
    bif ((x6:Nat):Int) == (1:Int) then
      privityref01_Mul a x3 x1 >>= fun r2 =>
      privityref01_Mul a x1 x1 >>= fun r3 =>
      divU x2 2 >>= fun x7 =>
      some (.go (r3,x7,r2))
    else
      privityref01_Mul a x1 x1 >>= fun r4 =>
      divU x2 2 >>= fun x8 =>
      some (.go (r4,x8,x3))
  else
    some (.fin x3)
def privityref01_Pow (a:Nat) (b:Nat) (c:Nat):Option Nat :=
  lpO (fun (st:Nat × Nat × Nat)=>privityref01_Pow_L0 a st.1 st.2.1 st.2.2) big (b,c,1) >>= fun x5 =>
  some x5
def privityref01_Inverse (a:Nat) (b:Nat):Option (Nat × Int) :=
  bif ((b:Nat):Int) == (0:Int) then
    some (0,((8:Nat):Int))
  else
    some (subU a 2) >>= fun x1 =>
    privityref01_Pow a b x1 >>= fun r1 =>
    some (r1,((0:Nat):Int))
def privityref01_Neg (a:Nat) (b:Nat):Option Nat :=
  some (subU a b) >>= fun x1 =>
  remU x1 a >>= fun x2 =>
  some x2
def privityref04_Mul_L1 (a:Nat) (b:List Nat) (c:List Nat) (k1:Nat) (k2:Nat) (l4:List Nat):Option (List Nat) :=
  addI ((k1:Nat):Int) ((k2:Nat):Int) >>= fun x6 =>
  idx l4 x6 >>= fun x7 =>
  b[k1]? >>= fun x8 =>
  c[k2]? >>= fun x9 =>
  privityref01_Mul a x8 x9 >>= fun r3 =>
  privityref01_Add a x7 r3 >>= fun r4 =>
  some (l4.set x6.toNat r4) >>= fun l6 =>
  some l6
def privityref04_Mul_L0 (a:Nat) (b:List Nat) (c:List Nat) (k1:Nat) (l2:List Nat):Option (List Nat) :=
  rgS (fun k2 (st:(List Nat))=>privityref04_Mul_L1 a b c k1 k2 st) (c.length - 0) 0 l2 >>= fun l5 =>
  some l5
def privityref04_Mul (a:Nat) (b:List Nat) (c:List Nat):Option (List Nat) :=
  (
    bif ((b.length:Nat):Int) == (0:Int) then
      some true
    else
      some (((c.length:Nat):Int) == (0:Int))
  ) >>= fun x1 =>
  bif x1 then
    some ([]:List Nat)
  else
    addI ((b.length:Nat):Int) ((c.length:Nat):Int) >>= fun x2 =>
    subI x2 (1:Int) >>= fun x3 =>
    mkO 8 x3 x3 (0:Nat) >>= fun l1 =>
    rgS (fun k1 (st:(List Nat))=>privityref04_Mul_L0 a b c k1 st) (b.length - 0) 0 l1 >>= fun l3 =>
    privityref04_Trim l3 >>= fun r5 =>
    some r5
def privityref12_VanishingPolynomial_L0 (a:T_api_Params) (r1:(List Int)) (k1:Nat) (l1:List Nat):Option (List Nat) :=
  r1[k1]? >>= fun x2 =>
  some (toU x2) >>= fun x3 =>
  privityref01_Inverse a.P x3 >>= fun r3 =>
  privityref01_Neg a.P r3.1 >>= fun r4 =>
  privityref04_Mul a.P l1 ([1,r4]:List Nat) >>= fun r5 =>
  some r5
def privityref12_VanishingPolynomial (a:T_api_Params) (b:List Int):Option (List Nat) :=
  privityref12_ExtendCoalition a b >>= fun r1 =>
  rgS (fun k1 (st:(List Nat))=>privityref12_VanishingPolynomial_L0 a r1 k1 st) (r1.length - 0) 0 ([1]:List Nat) >>= fun l2 =>
  some l2
def privityref15_SameEvent (a:T_api_Event) (b:T_api_Event):Option Bool :=
  bif a.Round == b.Round then
    bif a.From == b.From then
      privityref05_Same a.Words b.Words >>= fun r1 =>
      some r1
    else
      some false
  else
    some false
def privityref15_FirstDifference_L0 (a:List T_api_Event) (b:List T_api_Event) (x1:Int):Option (Out Int (Int ⊕ Unit)) :=
  (
    bif decide (x1 < ((a.length:Nat):Int)) then
      some (decide (x1 < ((b.length:Nat):Int)))
    else
      some false
  ) >>= fun x2 =>
  bif x2 then
    idx a x1 >>= fun x3 =>
    idx b x1 >>= fun x4 =>
    privityref15_SameEvent x3 x4 >>= fun r2 =>
    bif !r2 then
      some (.fin (.inl x1))
    else
      addI x1 (1:Int) >>= fun x5 =>
      some (.go x5)
  else
    some (.fin (.inr ()))
def privityref15_FirstDifference (a:List T_api_Event) (b:List T_api_Event):Option Int :=
  lpO (fun (st:Int)=>privityref15_FirstDifference_L0 a b st) big ((0:Nat):Int) >>= fun r1=>sumB r1 (fun x=>some x) fun _ =>
  bif ((a.length:Nat):Int) == ((b.length:Nat):Int) then
    some (-1)
  else
    bif decide (((a.length:Nat):Int) < ((b.length:Nat):Int)) then
      some ((a.length:Nat):Int)
    else
      some ((b.length:Nat):Int)
def privityref15_Same (a:List T_api_Event) (b:List T_api_Event):Option Bool :=
  privityref15_FirstDifference a b >>= fun r1 =>
  some (decide (r1 < (0:Int)))
def privitylaw19_VSSPerfectSecrecy_L0 (a:T_privitylaw19_Moved) (r4:(List Nat)) (l5:List Nat) (x9:Int):Option (Out ((List Nat) × Int) (List Nat)) :=
  bif decide (x9 < ((l5.length:Nat):Int)) then
    idx l5 x9 >>= fun x10 =>
    idx r4 x9 >>= fun x11 =>
    privityref01_Mul a.X.W.S.P a.D x11 >>= fun r7 =>
    privityref01_Add a.X.W.S.P x10 r7 >>= fun r8 =>
    some (l5.set x9.toNat r8) >>= fun l8 =>
    addI x9 (1:Int) >>= fun x12 =>
    some (.go (l8,x12))
  else
    some (.fin l5)
def privitylaw19_VSSPerfectSecrecy_L2 (a:T_privitylaw19_Moved) (r4:(List Nat)) (r5:Int) (k2:Nat) (l15:List Nat) (x18:Int) (x19:Int):Option (Out ((List Nat) × Int × Int) ((List Nat) × Int)) :=
  (
    bif decide (x19≤a.X.W.S.T) then
      some (decide (x18 < r5))
    else
      some false
  ) >>= fun x22 =>
  bif x22 then
    idx l15 x18 >>= fun x23 =>
    r4[k2]? >>= fun x24 =>
    idx r4 x19 >>= fun x25 =>
    privityref01_Mul a.X.W.S.P x24 x25 >>= fun r11 =>
    privityref01_Mul a.X.W.S.P a.D r11 >>= fun r12 =>
    privityref01_Add a.X.W.S.P x23 r12 >>= fun r13 =>
    some (l15.set x18.toNat r13) >>= fun l18 =>
    addI x18 (1:Int) >>= fun x26 =>
    addI x19 (1:Int) >>= fun x27 =>
    some (.go (l18,x26,x27))
  else
    some (.fin (l15,x18))
def privitylaw19_VSSPerfectSecrecy_L1 (a:T_privitylaw19_Moved) (r4:(List Nat)) (r5:Int) (k2:Nat) (l13:List Nat) (x15:Int):Option ((List Nat) × Int) :=
  lpO (fun (st:(List Nat) × Int × Int)=>privitylaw19_VSSPerfectSecrecy_L2 a r4 r5 k2 st.1 st.2.1 st.2.2) big (l13,x15,((k2:Nat):Int)) >>= fun (l17,x21) =>
  some (l17,x21)
def privitylaw19_VSSPerfectSecrecy_L3 (a:T_privitylaw19_Moved) (r16:T_network_Net × T_api_VSSResult × Bool) (r22:T_network_Net × T_api_VSSResult × Bool) (k3:Nat):Option (Out Unit Bool) :=
  a.X.W.Corrupt[k3]? >>= fun x30 =>
  network_Net_View r16.1 x30 >>= fun r24 =>
  network_Net_View r22.1 x30 >>= fun r25 =>
  privityref15_Same r24 r25 >>= fun r26 =>
  bif !r26 then
    some (.fin false)
  else
    some (.go ())
def privitylaw19_VSSPerfectSecrecy_L4 (r3:(List Int)) (r27:(List (List Nat))) (k4:Nat) (l20:List T_api_Point):Option (List T_api_Point) :=
  r3[k4]? >>= fun x32 =>
  some (toU x32) >>= fun x33 =>
  subI x32 (1:Int) >>= fun x34 =>
  idx r27 x34 >>= fun x35 =>
  x35[0]? >>= fun x36 =>
  appO 16 l20 ([(⟨x33,x36⟩:T_api_Point)]:List T_api_Point) >>= fun l22 =>
  some l22
def privitylaw19_VSSPerfectSecrecy (a:T_privitylaw19_Moved):Option Bool :=
  privitylaw19_awake >>= fun r1 =>
  bif !r1 then
    some false
  else
    (
      privityref19_Fair a.X.W a.X.Q ((7:Nat):Int) ((8:Nat):Int) ((2:Nat):Int) >>= fun r2 =>
      bif !r2 then
        some true
      else
        some (decide (((a.D:Nat):Int) ≥ ((a.X.W.S.P:Nat):Int)))
    ) >>= fun x1 =>
    bif x1 then
      some true
    else
      privityref12_HonestParties a.X.W.S a.X.W.Corrupt >>= fun r3 =>
      some (toI ((a.Dealer:Nat):Int)) >>= fun x2 =>
      remI x2 ((r3.length:Nat):Int) >>= fun x3 =>
      idx r3 x3 >>= fun x4 =>
      subI x4 (1:Int) >>= fun x5 =>
      idx a.X.Q x5 >>= fun x6 =>
      bif ((x6.length:Nat):Int) == (0:Int) then
        some true
      else
        privityref12_VanishingPolynomial a.X.W.S a.X.W.Corrupt >>= fun r4 =>
        privityref19_Rest a.X.W.S >>= fun r5 =>
        appO 24 ([]:List (List (List Nat))) a.X.Q >>= fun l1 =>
        appO 24 ([]:List (List Nat)) a.X.W.Tapes >>= fun l2 =>
        x6[0]? >>= fun x7 =>
        appO 8 ([]:List Nat) x7 >>= fun l3 =>
        lpO (fun (st:(List Nat) × Int)=>privitylaw19_VSSPerfectSecrecy_L0 a r4 st.1 st.2) big (l3,((0:Nat):Int)) >>= fun l7 =>
        cutO x6 (1:Int) ((x6.length:Nat):Int) >>= fun l9 =>
        appO 24 ([l7]:List (List Nat)) l9 >>= fun l10 =>
        idx l1 x5 >>= fun x13 =>
        some (l1.set x5.toNat l10) >>= fun l11 =>
        idx a.X.W.Tapes x5 >>= fun x14 =>
        appO 8 ([]:List Nat) x14 >>= fun l12 =>
        ckN (max 1 (a.X.W.S.T+1).toNat) >>= fun u1 =>
        rgS (fun k2 (st:(List Nat) × Int)=>privitylaw19_VSSPerfectSecrecy_L1 a r4 r5 k2 st.1 st.2) ((max 1 (a.X.W.S.T+1).toNat) - 1) 1 (l12,((0:Nat):Int)) >>= fun (l14,x17) =>
        idx l2 x5 >>= fun x28 =>
        some (l2.set x5.toNat l14) >>= fun l19 =>
        privitylaw19_run a.X >>= fun r14 =>
        sumE r14 (fun r15 =>
          privitylaw19_run (⟨(⟨a.X.W.S,a.X.W.Corrupt,a.X.W.Deviations,l19⟩:T_api_Scenario),l11⟩:T_privitylaw19_Play) >>= fun r17 =>
          sumE r17 (fun r18 =>
            some false)
          (fun r19 =>
            some false))
        (fun r16 =>
          privitylaw19_run (⟨(⟨a.X.W.S,a.X.W.Corrupt,a.X.W.Deviations,l19⟩:T_api_Scenario),l11⟩:T_privitylaw19_Play) >>= fun r20 =>
          sumE r20 (fun r21 =>
            (
              bif !r16.2.2 then
                some ()
              else
                some ()
            ) >>= fun _ =>
            some false)
          (fun r22 =>
            (
              bif !r16.2.2 then
                some true
              else
                some (!r22.2.2)
            ) >>= fun x29 =>
            bif x29 then
              some false
            else
              rgO (fun k3 (st:Unit)=>privitylaw19_VSSPerfectSecrecy_L3 a r16 r22 k3) (a.X.W.Corrupt.length - 0) 0 () >>= fun r23=>outB r23 (fun x=>some x) fun _ =>
              vss_SharingOf r22.2.1 x4 ((0:Nat):Int) >>= fun r27 =>
              rgS (fun k4 (st:(List T_api_Point))=>privitylaw19_VSSPerfectSecrecy_L4 r3 r27 k4 st) (r3.length - 0) 0 ([]:List T_api_Point) >>= fun l21 =>
              shamir_Reconstruct a.X.W.S.P a.X.W.S.T l21 >>= fun r29 =>
              bif r29.2 == (0:Int) then
                x7[0]? >>= fun x37 =>
                privityref01_Add a.X.W.S.P x37 a.D >>= fun r30 =>
                some (((r29.1:Nat):Int) == ((r30:Nat):Int))
              else
                some false))
end Pu
