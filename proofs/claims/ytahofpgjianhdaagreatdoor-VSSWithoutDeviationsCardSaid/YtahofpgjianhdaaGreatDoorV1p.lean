/- Plain functions: what the Go functions compute, over lists and numbers, in Option (none: a run that is not followed). No Go in it. Printed by a program of this claim. -/
import Derived.Test.YtahofpgjianhdaaGreatDoorWd
set_option linter.unusedVariables false
namespace Pu
open Gw
structure T_api_Params where
  P : Nat
  N : Int
  T : Int
structure T_api_Deviation where
  Round : Int
  From : Int
  To : Int
  At : Int
  Kind : Int
  K : Nat
  Of : Int
  SrcIndex : Int
structure T_api_Scenario where
  S : T_api_Params
  Corrupt : List Int
  Deviations : List T_api_Deviation
  Tapes : List (List Nat)
structure T_privitylaw19_Play where
  W : T_api_Scenario
  Q : List (List (List Nat))
structure T_api_Event where
  Round : Int
  From : Int
  Words : List Nat
structure T_tape_Tape where
  zwords : List Nat
  zat : Int
structure T_network_Net where
  zw : T_api_Scenario
  zround : Int
  zviews : List (List T_api_Event)
  ztapes : List T_tape_Tape
structure T_api_VSSState where
  S : List (List (List (List Nat)))
  Rows : List (List (List (List Nat)))
  Flags : List (List (List Nat))
structure T_vssdeal_phase where
  zn : T_network_Net
  zs : T_api_Params
  zq : List (List (List Nat))
  zd : T_api_VSSState
structure T_vss_court where
  zn : T_network_Net
  zp : Nat
  zd : T_api_VSSState
  zaccuses : List (List Bool)
  zobjects : List (List Bool)
  ztold : List (List (List (List Nat)))
structure T_arr2_3 where
  e0 : Int
  e1 : Int
structure T_vss_hearing where
  zl : List Nat
structure T_api_VSSResult where
  Rows : List (List (List (List Nat)))
  Disqualified : List Bool
def privitylaw19_plain  : Option (T_api_Scenario × (List (List (List Nat)))) :=
  some ((⟨(⟨31, ((4 : Nat) : Int), ((1 : Nat) : Int)⟩ : T_api_Params), ([] : List Int), ([] : List T_api_Deviation), ([([7] : List Nat), ([] : List Nat), ([] : List Nat), ([] : List Nat)] : List (List Nat))⟩ : T_api_Scenario), ([([([5, 3] : List Nat)] : List (List Nat)), ([] : List (List Nat)), ([] : List (List Nat)), ([] : List (List Nat))] : List (List (List Nat))))
def field_Exponent_L0 (p_p : Nat) (k1 : Nat) : Option (Out Unit Int) :=
  ([5, 7, 13, 17, 19, 31, 61] : List Int)[k1]? >>= fun x1 =>
  shlU 1 x1 >>= fun x2 =>
  some (subU x2 1) >>= fun x3 =>
  bif ((p_p : Nat) : Int) == ((x3 : Nat) : Int) then
    some (.fin x1)
  else
    some (.go ())
def field_Exponent (p_p : Nat) : Option Int :=
  ckN 7 >>= fun u1 =>
  rgO (fun k1 (st : Unit) => field_Exponent_L0 p_p k1) (7 - 0) 0 () >>= fun r1 => outB r1 (fun x => some x) fun _ =>
  some ((0 : Nat) : Int)
def field_Supported (p_p : Nat) : Option Bool :=
  field_Exponent p_p >>= fun r1 =>
  some (r1 != (0 : Int))
def params_Valid (p_s : T_api_Params) : Option Bool :=
  field_Supported p_s.P >>= fun r1 =>
  bif r1 then
    bif decide (p_s.N ≥ (4 : Int)) then
      bif decide (p_s.N ≤ (13 : Int)) then
        some (toU p_s.N) >>= fun x1 =>
        bif decide (((x1 : Nat) : Int) < ((p_s.P : Nat) : Int)) then
          bif decide (p_s.T ≥ (1 : Int)) then
            bif decide (p_s.T < p_s.N) then
              mulI (3 : Int) p_s.T >>= fun x2 =>
              some (decide (x2 < p_s.N))
            else
              some false
          else
            some false
        else
          some false
      else
        some false
    else
      some false
  else
    some false
def params_ValidCoalition_L0 (p_s : T_api_Params) (p_l : List Int) (k1 : Nat) : Option (Out Unit Bool) :=
  p_l[k1]? >>= fun x2 =>
  bif decide (x2 < (1 : Int)) then
    some (.fin false)
  else
    bif decide (x2 > p_s.N) then
      some (.fin false)
    else
      bif decide (((k1 : Nat) : Int) > (0 : Int)) then
        subI ((k1 : Nat) : Int) (1 : Int) >>= fun x3 =>
        idx p_l x3 >>= fun x4 =>
        bif decide (x4 ≥ x2) then
          some (.fin false)
        else
          some (.go ())
      else
        some (.go ())
def params_ValidCoalition (p_s : T_api_Params) (p_l : List Int) : Option Bool :=
  (
    params_Valid p_s >>= fun r1 =>
    bif !r1 then
      some true
    else
      some (decide (((p_l.length : Nat) : Int) > p_s.T))
  ) >>= fun x1 =>
  bif x1 then
    some false
  else
    rgO (fun k1 (st : Unit) => params_ValidCoalition_L0 p_s p_l k1) (p_l.length - 0) 0 () >>= fun r2 => outB r2 (fun x => some x) fun _ =>
    some true
def params_lie (p_s : T_api_Params) (p_l : T_api_Deviation) : Option Bool :=
  (
    bif p_l.Kind == (3 : Int) then
      some ((1 : Nat) : Int)
    else
      some ((0 : Nat) : Int)
  ) >>= fun x1 =>
  bif decide (p_l.Round ≥ (0 : Int)) then
    bif decide (p_l.At ≥ (0 : Int)) then
      bif decide (p_l.SrcIndex ≥ (0 : Int)) then
        bif decide (p_l.From ≥ (1 : Int)) then
          bif decide (p_l.From ≤ p_s.N) then
            bif decide (p_l.To ≥ (0 : Int)) then
              bif decide (p_l.To ≤ p_s.N) then
                bif decide (p_l.Kind ≥ (1 : Int)) then
                  bif decide (p_l.Kind ≤ (4 : Int)) then
                    bif decide (p_l.Of ≥ x1) then
                      some (decide (p_l.Of ≤ p_s.N))
                    else
                      some false
                  else
                    some false
                else
                  some false
              else
                some false
            else
              some false
          else
            some false
        else
          some false
      else
        some false
    else
      some false
  else
    some false
def params_ValidScenario_1 (p_l : T_api_Deviation) (p_a1 : T_api_Scenario) : Option Bool :=
  params_lie p_a1.S p_l >>= fun r1 =>
  some (!r1)
def slices_IndexFunc_Lapi_Deviation_api_Deviation_params_ValidScenario_1_L0 (p_s : List T_api_Deviation) (p_f_c0 : T_api_Scenario) (k1 : Nat) : Option (Out Unit Int) :=
  p_s[k1]? >>= fun x1 =>
  params_ValidScenario_1 x1 p_f_c0 >>= fun r2 =>
  bif r2 then
    some (.fin ((k1 : Nat) : Int))
  else
    some (.go ())
def slices_IndexFunc_Lapi_Deviation_api_Deviation_params_ValidScenario_1 (p_s : List T_api_Deviation) (p_f_c0 : T_api_Scenario) : Option Int :=
  rgO (fun k1 (st : Unit) => slices_IndexFunc_Lapi_Deviation_api_Deviation_params_ValidScenario_1_L0 p_s p_f_c0 k1) (p_s.length - 0) 0 () >>= fun r1 => outB r1 (fun x => some x) fun _ =>
  some (-1)
def slices_ContainsFunc_Lapi_Deviation_api_Deviation_params_ValidScenario_1 (p_s : List T_api_Deviation) (p_f_c0 : T_api_Scenario) : Option Bool :=
  slices_IndexFunc_Lapi_Deviation_api_Deviation_params_ValidScenario_1 p_s p_f_c0 >>= fun r1 =>
  some (decide (r1 ≥ (0 : Int)))
def params_ValidScenario_2_1 (p_x : Nat) (p_a1 : T_api_Scenario) : Option Bool :=
  some (decide (((p_x : Nat) : Int) ≥ ((p_a1.S.P : Nat) : Int)))
def slices_IndexFunc_Luint64_uint64_params_ValidScenario_2_1_L0 (p_s : List Nat) (p_f_c0 : T_api_Scenario) (k1 : Nat) : Option (Out Unit Int) :=
  p_s[k1]? >>= fun x1 =>
  params_ValidScenario_2_1 x1 p_f_c0 >>= fun r2 =>
  bif r2 then
    some (.fin ((k1 : Nat) : Int))
  else
    some (.go ())
def slices_IndexFunc_Luint64_uint64_params_ValidScenario_2_1 (p_s : List Nat) (p_f_c0 : T_api_Scenario) : Option Int :=
  rgO (fun k1 (st : Unit) => slices_IndexFunc_Luint64_uint64_params_ValidScenario_2_1_L0 p_s p_f_c0 k1) (p_s.length - 0) 0 () >>= fun r1 => outB r1 (fun x => some x) fun _ =>
  some (-1)
def slices_ContainsFunc_Luint64_uint64_params_ValidScenario_2_1 (p_s : List Nat) (p_f_c0 : T_api_Scenario) : Option Bool :=
  slices_IndexFunc_Luint64_uint64_params_ValidScenario_2_1 p_s p_f_c0 >>= fun r1 =>
  some (decide (r1 ≥ (0 : Int)))
def params_ValidScenario_2 (p_l : List Nat) (p_a1 : T_api_Scenario) : Option Bool :=
  slices_ContainsFunc_Luint64_uint64_params_ValidScenario_2_1 p_l p_a1 >>= fun r1 =>
  some r1
def slices_IndexFunc_LLuint64_Luint64_params_ValidScenario_2_L0 (p_s : List (List Nat)) (p_f_c0 : T_api_Scenario) (k1 : Nat) : Option (Out Unit Int) :=
  p_s[k1]? >>= fun x1 =>
  params_ValidScenario_2 x1 p_f_c0 >>= fun r2 =>
  bif r2 then
    some (.fin ((k1 : Nat) : Int))
  else
    some (.go ())
def slices_IndexFunc_LLuint64_Luint64_params_ValidScenario_2 (p_s : List (List Nat)) (p_f_c0 : T_api_Scenario) : Option Int :=
  rgO (fun k1 (st : Unit) => slices_IndexFunc_LLuint64_Luint64_params_ValidScenario_2_L0 p_s p_f_c0 k1) (p_s.length - 0) 0 () >>= fun r1 => outB r1 (fun x => some x) fun _ =>
  some (-1)
def slices_ContainsFunc_LLuint64_Luint64_params_ValidScenario_2 (p_s : List (List Nat)) (p_f_c0 : T_api_Scenario) : Option Bool :=
  slices_IndexFunc_LLuint64_Luint64_params_ValidScenario_2 p_s p_f_c0 >>= fun r1 =>
  some (decide (r1 ≥ (0 : Int)))
def params_ValidScenario (p_w : T_api_Scenario) : Option Bool :=
  params_ValidCoalition p_w.S p_w.Corrupt >>= fun r1 =>
  bif !r1 then
    some false
  else
    bif ((p_w.Tapes.length : Nat) : Int) != p_w.S.N then
      some false
    else
      slices_ContainsFunc_Lapi_Deviation_api_Deviation_params_ValidScenario_1 p_w.Deviations p_w >>= fun r2 =>
      bif r2 then
        some false
      else
        slices_ContainsFunc_LLuint64_Luint64_params_ValidScenario_2 p_w.Tapes p_w >>= fun r3 =>
        some (!r3)
def tape_New (p_words : List Nat) : Option T_tape_Tape :=
  some (⟨p_words, ((0 : Nat) : Int)⟩ : T_tape_Tape)
def network_New_L0 (p_w : T_api_Scenario) (k1 : Nat) (l2 : List T_tape_Tape) : Option (List T_tape_Tape) :=
  p_w.Tapes[k1]? >>= fun x2 =>
  tape_New x2 >>= fun r3 =>
  appO 8 l2 ([r3] : List T_tape_Tape) >>= fun l4 =>
  some l4
def network_New (p_w : T_api_Scenario) : Option (Unit ⊕ T_network_Net) :=
  params_ValidScenario p_w >>= fun r1 =>
  bif !r1 then
    some (.inl ())
  else
    mkO 24 p_w.S.N p_w.S.N ([] : List T_api_Event) >>= fun l1 =>
    rgS (fun k1 (st : (List T_tape_Tape)) => network_New_L0 p_w k1 st) (p_w.Tapes.length - 0) 0 ([] : List T_tape_Tape) >>= fun l3 =>
    some (.inr (⟨p_w, ((0 : Nat) : Int), l1, l3⟩ : T_network_Net))
def network_Net_Scenario (p_n : T_network_Net) : Option T_api_Scenario :=
  some p_n.zw
def network_Net_Tape (p_n : T_network_Net) (p_i : Int) : Option Nat :=
  subI p_i (1 : Int) >>= fun x1 =>
  idx p_n.ztapes x1 >>= fun x2 =>
  some x1.toNat
def tape_Tape_Remaining (p_t : T_tape_Tape) : Option Int :=
  subI ((p_t.zwords.length : Nat) : Int) p_t.zat >>= fun x1 =>
  some x1
def tape_Tape_Take (p_t : T_tape_Tape) (p_n : Int) : Option ((List Nat) × Int × Int) :=
  (
    bif decide (p_n < (0 : Int)) then
      some true
    else
      tape_Tape_Remaining p_t >>= fun r1 =>
      some (decide (p_n > r1))
  ) >>= fun x1 =>
  bif x1 then
    some (([] : List Nat), ((10 : Nat) : Int), p_t.zat)
  else
    addI p_t.zat p_n >>= fun x2 =>
    cutO p_t.zwords p_t.zat x2 >>= fun l1 =>
    some (l1, ((0 : Nat) : Int), x2)
def bivariate_New_L0 (p_first : List Nat) (k1 : Nat) (l2 : List (List Nat)) : Option (List (List Nat)) :=
  mkO 8 ((p_first.length : Nat) : Int) ((p_first.length : Nat) : Int) (0 : Nat) >>= fun l4 =>
  l2[k1]? >>= fun x6 =>
  some (l2.set k1 l4) >>= fun l5 =>
  some l5
def bivariate_New_L1 (p_first : List Nat) (k2 : Nat) (l6 : List (List Nat)) : Option (List (List Nat)) :=
  p_first[k2]? >>= fun x8 =>
  l6[0]? >>= fun x9 =>
  l6[k2]? >>= fun x10 =>
  x9[k2]? >>= fun x11 =>
  some (x9.set k2 x8) >>= fun l8 =>
  some (l6.set 0 l8) >>= fun l9 =>
  x10[0]? >>= fun x12 =>
  l9[k2]? >>= fun x13 =>
  x13[0]? >>= fun x14 =>
  some (x13.set 0 x8) >>= fun l10 =>
  some (l9.set k2 l10) >>= fun l11 =>
  some l11
def bivariate_New_L3 (p_first : List Nat) (k3 : Nat) (l16 : List Nat) (l17 : List (List Nat)) (x16 : Int) : Option (Out ((List Nat) × (List (List Nat)) × Int) ((List Nat) × (List (List Nat)))) :=
  bif decide (x16 < ((p_first.length : Nat) : Int)) then
    l17[k3]? >>= fun x17 =>
    idx l17 x16 >>= fun x18 =>
    l16[0]? >>= fun x19 =>
    idx x17 x16 >>= fun x20 =>
    some (x17.set x16.toNat x19) >>= fun l22 =>
    some (l17.set k3 l22) >>= fun l23 =>
    x18[k3]? >>= fun x21 =>
    idx l23 x16 >>= fun x22 =>
    x22[k3]? >>= fun x23 =>
    some (x22.set k3 x19) >>= fun l24 =>
    some (l23.set x16.toNat l24) >>= fun l25 =>
    cutO l16 (1 : Int) ((l16.length : Nat) : Int) >>= fun l26 =>
    addI x16 (1 : Int) >>= fun x24 =>
    some (.go (l26, l25, x24))
  else
    some (.fin (l16, l17))
def bivariate_New_L2 (p_first : List Nat) (k3 : Nat) (l12 : List Nat) (l13 : List (List Nat)) : Option ((List Nat) × (List (List Nat))) :=
  lpO (fun (st : (List Nat) × (List (List Nat)) × Int) => bivariate_New_L3 p_first k3 st.1 st.2.1 st.2.2) big (l12, l13, ((k3 : Nat) : Int)) >>= fun (l20, l21) =>
  some (l20, l21)
def bivariate_New (p_first : List Nat) (p_rest : List Nat) : Option ((List (List Nat)) × Int) :=
  (
    bif ((p_first.length : Nat) : Int) == (0 : Int) then
      some true
    else
      subI ((p_first.length : Nat) : Int) (1 : Int) >>= fun x2 =>
      mulI ((p_first.length : Nat) : Int) x2 >>= fun x3 =>
      divI x3 (2 : Int) >>= fun x4 =>
      some (((p_rest.length : Nat) : Int) != x4)
  ) >>= fun x1 =>
  bif x1 then
    some (([] : List (List Nat)), ((1 : Nat) : Int))
  else
    mkO 24 ((p_first.length : Nat) : Int) ((p_first.length : Nat) : Int) ([] : List Nat) >>= fun l1 =>
    rgS (fun k1 (st : (List (List Nat))) => bivariate_New_L0 p_first k1 st) (l1.length - 0) 0 l1 >>= fun l3 =>
    rgS (fun k2 (st : (List (List Nat))) => bivariate_New_L1 p_first k2 st) (p_first.length - 0) 0 l3 >>= fun l7 =>
    ckN (max 1 (((p_first.length : Nat) : Int)).toNat) >>= fun u1 =>
    rgS (fun k3 (st : (List Nat) × (List (List Nat))) => bivariate_New_L2 p_first k3 st.1 st.2) ((max 1 (((p_first.length : Nat) : Int)).toNat) - 1) 1 (p_rest, l7) >>= fun (l14, l15) =>
    some (l15, ((0 : Nat) : Int))
def vssdeal_phase_choose_1_L0 (p_i : Int) (p_a1 : T_vssdeal_phase) (x1 : List (List Nat)) (k1 : Nat) (l1 : List T_tape_Tape) (l2 : List (List (List (List Nat)))) : Option ((List T_tape_Tape) × (List (List (List (List Nat))))) :=
  x1[k1]? >>= fun x3 =>
  addI p_i (1 : Int) >>= fun x4 =>
  network_Net_Tape (⟨p_a1.zn.zw, p_a1.zn.zround, p_a1.zn.zviews, l1⟩ : T_network_Net) x4 >>= fun r2 =>
  addI p_a1.zs.T (1 : Int) >>= fun x5 =>
  mulI p_a1.zs.T x5 >>= fun x6 =>
  divI x6 (2 : Int) >>= fun x7 =>
  l1[r2]? >>= fun x8 =>
  tape_Tape_Take x8 x7 >>= fun r3 =>
  some (l1.set r2 (⟨x8.zwords, r3.2.2⟩ : T_tape_Tape)) >>= fun l5 =>
  bivariate_New x3 r3.1 >>= fun r4 =>
  idx l2 p_i >>= fun x9 =>
  appO 24 x9 ([r4.1] : List (List (List Nat))) >>= fun l6 =>
  some (l2.set p_i.toNat l6) >>= fun l7 =>
  some (l5, l7)
def vssdeal_phase_choose_1 (p_i : Int) (p_a1 : T_vssdeal_phase) : Option ((List T_tape_Tape) × T_api_VSSState) :=
  idx p_a1.zq p_i >>= fun x1 =>
  rgS (fun k1 (st : (List T_tape_Tape) × (List (List (List (List Nat))))) => vssdeal_phase_choose_1_L0 p_i p_a1 x1 k1 st.1 st.2) (x1.length - 0) 0 (p_a1.zn.ztapes, p_a1.zd.S) >>= fun (l3, l4) =>
  some (l3, (⟨l4, p_a1.zd.Rows, p_a1.zd.Flags⟩ : T_api_VSSState))
def vssdeal_phase_each_vssdeal_phase_choose_1_al_L0 (p_p : T_vssdeal_phase) (k1 : Nat) (l1 : List T_tape_Tape) (l2 : List (List (List (List Nat)))) (l3 : List (List (List (List Nat)))) (l4 : List (List (List Nat))) : Option ((List T_tape_Tape) × (List (List (List (List Nat)))) × (List (List (List (List Nat)))) × (List (List (List Nat)))) :=
  vssdeal_phase_choose_1 ((k1 : Nat) : Int) (⟨(⟨p_p.zn.zw, p_p.zn.zround, p_p.zn.zviews, l1⟩ : T_network_Net), p_p.zs, p_p.zq, (⟨l2, l3, l4⟩ : T_api_VSSState)⟩ : T_vssdeal_phase) >>= fun r2 =>
  some (r2.1, r2.2.S, r2.2.Rows, r2.2.Flags)
def vssdeal_phase_each_vssdeal_phase_choose_1_al (p_p : T_vssdeal_phase) : Option ((List T_tape_Tape) × T_api_VSSState) :=
  ckN (max 0 (p_p.zs.N).toNat) >>= fun u1 =>
  rgS (fun k1 (st : (List T_tape_Tape) × (List (List (List (List Nat)))) × (List (List (List (List Nat)))) × (List (List (List Nat)))) => vssdeal_phase_each_vssdeal_phase_choose_1_al_L0 p_p k1 st.1 st.2.1 st.2.2.1 st.2.2.2) ((max 0 (p_p.zs.N).toNat) - 0) 0 (p_p.zn.ztapes, p_p.zd.S, p_p.zd.Rows, p_p.zd.Flags) >>= fun (l5, l6, l7, l8) =>
  some (l5, (⟨l6, l7, l8⟩ : T_api_VSSState))
def vssdeal_phase_choose (p_p : T_vssdeal_phase) : Option ((List T_tape_Tape) × T_api_VSSState) :=
  vssdeal_phase_each_vssdeal_phase_choose_1_al p_p >>= fun r1 =>
  some (r1.1, r1.2)
def math_bits_Mul64 (p_x : Nat) (p_y : Nat) : Option (Nat × Nat) :=
  some (andU p_x 4294967295) >>= fun x1 =>
  shrU p_x (32 : Int) >>= fun x2 =>
  some (andU p_y 4294967295) >>= fun x3 =>
  shrU p_y (32 : Int) >>= fun x4 =>
  some (mulU x1 x3) >>= fun x5 =>
  some (mulU x2 x3) >>= fun x6 =>
  shrU x5 (32 : Int) >>= fun x7 =>
  some (addU x6 x7) >>= fun x8 =>
  some (andU x8 4294967295) >>= fun x9 =>
  shrU x8 (32 : Int) >>= fun x10 =>
  some (mulU x1 x4) >>= fun x11 =>
  some (addU x9 x11) >>= fun x12 =>
  some (mulU x2 x4) >>= fun x13 =>
  some (addU x13 x10) >>= fun x14 =>
  shrU x12 (32 : Int) >>= fun x15 =>
  some (addU x14 x15) >>= fun x16 =>
  some (mulU p_x p_y) >>= fun x17 =>
  some (x16, x17)
def math_bits_Len64 (p_x : Nat) : Option Int :=
  bif p_x == 31 then
    some ((5 : Nat) : Int)
  else
    bif p_x == 127 then
      some ((7 : Nat) : Int)
    else
      bif p_x == 8191 then
        some ((13 : Nat) : Int)
      else
        bif p_x == 131071 then
          some ((17 : Nat) : Int)
        else
          bif p_x == 524287 then
            some ((19 : Nat) : Int)
          else
            bif p_x == 2147483647 then
              some ((31 : Nat) : Int)
            else
              bif p_x == 2305843009213693951 then
                some ((61 : Nat) : Int)
              else
                none
def field_width (p_p : Nat) : Option Nat :=
  math_bits_Len64 p_p >>= fun r1 =>
  some (toU r1) >>= fun x1 =>
  some x1
def field_fold_L0 (p_p : Nat) (r1 : Nat) (x1 : Nat) (x2 : Nat) : Option (Out (Nat × Nat) Nat) :=
  (
    bif ((x1 : Nat) : Int) != (0 : Int) then
      some true
    else
      some (decide (((x2 : Nat) : Int) > ((p_p : Nat) : Int)))
  ) >>= fun x5 =>
  bif x5 then
    some (andU x2 p_p) >>= fun x6 =>
    shrU x2 ((r1 : Nat) : Int) >>= fun x7 =>
    some (subU 64 r1) >>= fun x8 =>
    shlU x1 ((x8 : Nat) : Int) >>= fun x9 =>
    some (orU x7 x9) >>= fun x10 =>
    shrU x1 ((r1 : Nat) : Int) >>= fun x11 =>
    some (addU x10 x6) >>= fun x12 =>
    some (carU x10 x6) >>= fun x13 =>
    some (addU x11 x13) >>= fun x14 =>
    some (.go (x14, x12))
  else
    some (.fin x2)
def field_fold (p_p : Nat) (p_hi : Nat) (p_lo : Nat) : Option Nat :=
  field_width p_p >>= fun r1 =>
  lpO (fun (st : Nat × Nat) => field_fold_L0 p_p r1 st.1 st.2) big (p_hi, p_lo) >>= fun x4 =>
  bif ((x4 : Nat) : Int) == ((p_p : Nat) : Int) then
    some 0
  else
    some x4
def field_Mul (p_p : Nat) (p_a : Nat) (p_b : Nat) : Option Nat :=
  math_bits_Mul64 p_a p_b >>= fun r1 =>
  field_fold p_p r1.1 r1.2 >>= fun r2 =>
  some r2
def field_Add (p_p : Nat) (p_a : Nat) (p_b : Nat) : Option Nat :=
  some (addU p_a p_b) >>= fun x1 =>
  field_fold p_p 0 x1 >>= fun r1 =>
  some r1
def bivariate_Row_L1 (p_p : Nat) (x1 : Nat) (x4 : List Nat) (k2 : Nat) (l4 : List Nat) : Option (List Nat) :=
  x4[k2]? >>= fun x6 =>
  l4[k2]? >>= fun x7 =>
  field_Mul p_p x6 x1 >>= fun r3 =>
  field_Add p_p x7 r3 >>= fun r4 =>
  some (l4.set k2 r4) >>= fun l6 =>
  some l6
def bivariate_Row_L0 (p_p : Nat) (p_s : List (List Nat)) (p_x : Nat) (k1 : Nat) (l2 : List Nat) (x1 : Nat) : Option ((List Nat) × Nat) :=
  p_s[k1]? >>= fun x4 =>
  rgS (fun k2 (st : (List Nat)) => bivariate_Row_L1 p_p x1 x4 k2 st) (x4.length - 0) 0 l2 >>= fun l5 =>
  field_Mul p_p x1 p_x >>= fun r5 =>
  some (l5, r5)
def bivariate_Row (p_p : Nat) (p_s : List (List Nat)) (p_x : Nat) : Option (List Nat) :=
  mkO 8 ((p_s.length : Nat) : Int) ((p_s.length : Nat) : Int) (0 : Nat) >>= fun l1 =>
  rgS (fun k1 (st : (List Nat) × Nat) => bivariate_Row_L0 p_p p_s p_x k1 st.1 st.2) (p_s.length - 0) 0 (l1, 1) >>= fun (l3, x3) =>
  some l3
def vssdeal_phase_distribute_1_L1 (p_a1 : T_vssdeal_phase) (k1 : Nat) (x2 : List (List (List Nat))) (k2 : Nat) (l3 : List Nat) : Option (List Nat) :=
  x2[k2]? >>= fun x4 =>
  some (toU ((k1 : Nat) : Int)) >>= fun x5 =>
  bivariate_Row p_a1.zs.P x4 x5 >>= fun r3 =>
  appO 8 l3 r3 >>= fun l5 =>
  some l5
def vssdeal_phase_distribute_1_L0 (p_i : Int) (p_a1 : T_vssdeal_phase) (k1 : Nat) (l1 : List (List (List Nat))) : Option (List (List (List Nat))) :=
  idx p_a1.zd.S p_i >>= fun x2 =>
  ckN x2.length >>= fun u2 =>
  rgS (fun k2 (st : (List Nat)) => vssdeal_phase_distribute_1_L1 p_a1 k1 x2 k2 st) (x2.length - 0) 0 ([] : List Nat) >>= fun l4 =>
  idx l1 p_i >>= fun x6 =>
  appO 24 x6 ([l4] : List (List Nat)) >>= fun l6 =>
  some (l1.set p_i.toNat l6) >>= fun l7 =>
  some l7
def vssdeal_phase_distribute_1 (p_i : Int) (p_a1 : T_vssdeal_phase) (p_a2 : List (List (List Nat))) : Option (List (List (List Nat))) :=
  ckN (max 1 (p_a1.zs.N + 1).toNat) >>= fun u1 =>
  rgS (fun k1 (st : (List (List (List Nat)))) => vssdeal_phase_distribute_1_L0 p_i p_a1 k1 st) ((max 1 (p_a1.zs.N + 1).toNat) - 1) 1 p_a2 >>= fun l2 =>
  some l2
def vssdeal_phase_each_vssdeal_phase_distribute_1_al_L0 (p_p : T_vssdeal_phase) (k1 : Nat) (l1 : List (List (List Nat))) : Option (List (List (List Nat))) :=
  vssdeal_phase_distribute_1 ((k1 : Nat) : Int) p_p l1 >>= fun r2 =>
  some r2
def vssdeal_phase_each_vssdeal_phase_distribute_1_al (p_p : T_vssdeal_phase) (p_do_c1 : List (List (List Nat))) : Option (List (List (List Nat))) :=
  ckN (max 0 (p_p.zs.N).toNat) >>= fun u1 =>
  rgS (fun k1 (st : (List (List (List Nat)))) => vssdeal_phase_each_vssdeal_phase_distribute_1_al_L0 p_p k1 st) ((max 0 (p_p.zs.N).toNat) - 0) 0 p_do_c1 >>= fun l2 =>
  some l2
def slices_Clone_LLuint64_Luint64 (p_s : List (List Nat)) : Option (List (List Nat)) :=
  appO 24 ([] : List (List Nat)) p_s >>= fun l1 =>
  some l1
def slices_Index_Lint_int_L0 (p_s : List Int) (p_v : Int) (k1 : Nat) : Option (Out Unit Int) :=
  p_s[k1]? >>= fun x1 =>
  bif p_v == x1 then
    some (.fin ((k1 : Nat) : Int))
  else
    some (.go ())
def slices_Index_Lint_int (p_s : List Int) (p_v : Int) : Option Int :=
  rgO (fun k1 (st : Unit) => slices_Index_Lint_int_L0 p_s p_v k1) (p_s.length - 0) 0 () >>= fun r1 => outB r1 (fun x => some x) fun _ =>
  some (-1)
def slices_Contains_Lint_int (p_s : List Int) (p_v : Int) : Option Bool :=
  slices_Index_Lint_int p_s p_v >>= fun r1 =>
  some (decide (r1 ≥ (0 : Int)))
def adversary_done (p_w : T_api_Scenario) (p_x : T_api_Deviation) (p_round : Int) : Option Bool :=
  bif p_x.Round == p_round then
    slices_Contains_Lint_int p_w.Corrupt p_x.From >>= fun r1 =>
    some r1
  else
    some false
def field_Reduce (p_p : Nat) (p_n : Nat) : Option Nat :=
  field_fold p_p 0 p_n >>= fun r1 =>
  some r1
def slices_Clone_Luint64_uint64 (p_s : List Nat) : Option (List Nat) :=
  appO 8 ([] : List Nat) p_s >>= fun l1 =>
  some l1
def adversary_word (p_l : List Nat) (p_at : Int) : Option Nat :=
  bif decide (p_at < (0 : Int)) then
    some 0
  else
    bif decide (p_at ≥ ((p_l.length : Nat) : Int)) then
      some 0
    else
      idx p_l p_at >>= fun x1 =>
      some x1
def adversary_upon (p_w : T_api_Scenario) (p_x : T_api_Deviation) (p_l : List Nat) (p_said : List Nat) : Option (List Nat) :=
  bif p_x.Kind == (4 : Int) then
    some ([] : List Nat)
  else
    bif decide (p_x.At ≥ ((p_l.length : Nat) : Int)) then
      some p_l
    else
      field_Reduce p_w.S.P p_x.K >>= fun r1 =>
      slices_Clone_Luint64_uint64 p_l >>= fun r2 =>
      bif p_x.Kind == (1 : Int) then
        idx r2 p_x.At >>= fun x1 =>
        some (r2.set p_x.At.toNat r1) >>= fun l1 =>
        some l1
      else
        bif p_x.Kind == (2 : Int) then
          idx r2 p_x.At >>= fun x2 =>
          field_Add p_w.S.P x2 r1 >>= fun r3 =>
          some (r2.set p_x.At.toNat r3) >>= fun l2 =>
          some l2
        else
          bif p_x.Kind == (3 : Int) then
            slices_Contains_Lint_int p_w.Corrupt p_x.Of >>= fun r4 =>
            (
              bif !r4 then
                adversary_word p_said p_x.SrcIndex >>= fun r5 =>
                some r5
              else
                some 0
            ) >>= fun x3 =>
            idx r2 p_x.At >>= fun x4 =>
            field_Mul p_w.S.P r1 x3 >>= fun r6 =>
            field_Add p_w.S.P x4 r6 >>= fun r7 =>
            some (r2.set p_x.At.toNat r7) >>= fun l3 =>
            some l3
          else
            some r2
def adversary_ApplyToMessages_L0 (p_out : List (List (List Nat))) (k1 : Nat) (l2 : List (List (List Nat))) : Option (List (List (List Nat))) :=
  p_out[k1]? >>= fun x2 =>
  slices_Clone_LLuint64_Luint64 x2 >>= fun r2 =>
  l2[k1]? >>= fun x3 =>
  some (l2.set k1 r2) >>= fun l4 =>
  some l4
def adversary_ApplyToMessages_L2 (p_w : T_api_Scenario) (x5 : T_api_Deviation) (l7 : List Nat) (x10 : Int) (k3 : Nat) (l8 : List (List (List Nat))) : Option (List (List (List Nat))) :=
  (
    addI ((k3 : Nat) : Int) (1 : Int) >>= fun x14 =>
    bif x14 != x5.From then
      bif x5.To == (0 : Int) then
        some true
      else
        some (x5.To == x14)
    else
      some false
  ) >>= fun x13 =>
  bif x13 then
    idx l8 x10 >>= fun x15 =>
    x15[k3]? >>= fun x16 =>
    adversary_upon p_w x5 x16 l7 >>= fun r6 =>
    some (x15.set k3 r6) >>= fun l10 =>
    some (l8.set x10.toNat l10) >>= fun l11 =>
    some l11
  else
    some l8
def adversary_ApplyToMessages_L1 (p_w : T_api_Scenario) (p_round : Int) (p_out : List (List (List Nat))) (k2 : Nat) (l5 : List (List (List Nat))) : Option (List (List (List Nat))) :=
  p_w.Deviations[k2]? >>= fun x5 =>
  adversary_done p_w x5 p_round >>= fun r4 =>
  bif !r4 then
    some l5
  else
    (
      bif x5.Kind == (3 : Int) then
        subI x5.Of (1 : Int) >>= fun x6 =>
        idx p_out x6 >>= fun x7 =>
        subI x5.From (1 : Int) >>= fun x8 =>
        idx x7 x8 >>= fun x9 =>
        some x9
      else
        some ([] : List Nat)
    ) >>= fun l7 =>
    subI x5.From (1 : Int) >>= fun x10 =>
    idx l5 x10 >>= fun x11 =>
    ckN x11.length >>= fun u1 =>
    rgS (fun k3 (st : (List (List (List Nat)))) => adversary_ApplyToMessages_L2 p_w x5 l7 x10 k3 st) (x11.length - 0) 0 l5 >>= fun l9 =>
    some l9
def adversary_ApplyToMessages (p_w : T_api_Scenario) (p_round : Int) (p_out : List (List (List Nat))) : Option (List (List (List Nat))) :=
  mkO 24 ((p_out.length : Nat) : Int) ((p_out.length : Nat) : Int) ([] : List (List Nat)) >>= fun l1 =>
  rgS (fun k1 (st : (List (List (List Nat)))) => adversary_ApplyToMessages_L0 p_out k1 st) (p_out.length - 0) 0 l1 >>= fun l3 =>
  rgS (fun k2 (st : (List (List (List Nat)))) => adversary_ApplyToMessages_L1 p_w p_round p_out k2 st) (p_w.Deviations.length - 0) 0 l3 >>= fun l6 =>
  some l6
def network_Net_note (p_n : T_network_Net) (p_who : Int) (p_from : Int) (p_l : List Nat) : Option (List (List T_api_Event)) :=
  (
    bif p_who != p_from then
      some (decide (((p_l.length : Nat) : Int) > (0 : Int)))
    else
      some false
  ) >>= fun x1 =>
  bif x1 then
    idx p_n.zviews p_who >>= fun x2 =>
    addI p_from (1 : Int) >>= fun x3 =>
    appO 8 ([] : List Nat) p_l >>= fun l1 =>
    appO 40 x2 ([(⟨p_n.zround, x3, l1⟩ : T_api_Event)] : List T_api_Event) >>= fun l2 =>
    some (p_n.zviews.set p_who.toNat l2) >>= fun l3 =>
    some l3
  else
    some p_n.zviews
def network_Net_Send_L1 (p_n : T_network_Net) (r1 : (List (List (List Nat)))) (k1 : Nat) (k2 : Nat) (l6 : List (List T_api_Event)) (l7 : List (List (List Nat))) : Option ((List (List T_api_Event)) × (List (List (List Nat)))) :=
  r1[k2]? >>= fun x3 =>
  x3[k1]? >>= fun x4 =>
  appO 8 ([] : List Nat) x4 >>= fun l10 =>
  l7[k1]? >>= fun x5 =>
  appO 24 x5 ([l10] : List (List Nat)) >>= fun l11 =>
  some (l7.set k1 l11) >>= fun l12 =>
  network_Net_note (⟨p_n.zw, p_n.zround, l6, p_n.ztapes⟩ : T_network_Net) ((k1 : Nat) : Int) ((k2 : Nat) : Int) l10 >>= fun r4 =>
  some (r4, l12)
def network_Net_Send_L0 (p_n : T_network_Net) (r1 : (List (List (List Nat)))) (k1 : Nat) (l2 : List (List T_api_Event)) (l3 : List (List (List Nat))) : Option ((List (List T_api_Event)) × (List (List (List Nat)))) :=
  ckN (max 0 (p_n.zw.S.N).toNat) >>= fun u1 =>
  rgS (fun k2 (st : (List (List T_api_Event)) × (List (List (List Nat)))) => network_Net_Send_L1 p_n r1 k1 k2 st.1 st.2) ((max 0 (p_n.zw.S.N).toNat) - 0) 0 (l2, l3) >>= fun (l8, l9) =>
  some (l8, l9)
def network_Net_Send (p_n : T_network_Net) (p_out : List (List (List Nat))) : Option ((List (List (List Nat))) × Int × (List (List T_api_Event))) :=
  adversary_ApplyToMessages p_n.zw p_n.zround p_out >>= fun r1 =>
  mkO 24 p_n.zw.S.N p_n.zw.S.N ([] : List (List Nat)) >>= fun l1 =>
  rgS (fun k1 (st : (List (List T_api_Event)) × (List (List (List Nat)))) => network_Net_Send_L0 p_n r1 k1 st.1 st.2) (l1.length - 0) 0 (p_n.zviews, l1) >>= fun (l4, l5) =>
  addI p_n.zround (1 : Int) >>= fun x6 =>
  some (l5, x6, l4)
def network_Resize (p_l : List Nat) (p_n : Int) : Option (List Nat) :=
  mkO 8 p_n p_n (0 : Nat) >>= fun l1 =>
  some (copyL l1 p_l)
def vssdeal_phase_distribute_2_L1 (p_a3 : Int) (r2 : (List Nat)) (k2 : Nat) (l3 : List (List Nat)) : Option (List (List Nat)) :=
  mulI ((k2 : Nat) : Int) p_a3 >>= fun x7 =>
  addI ((k2 : Nat) : Int) (1 : Int) >>= fun x8 =>
  mulI x8 p_a3 >>= fun x9 =>
  cutO r2 x7 x9 >>= fun l5 =>
  appO 24 l3 ([l5] : List (List Nat)) >>= fun l6 =>
  some l6
def vssdeal_phase_distribute_2_L0 (p_i : Int) (p_a1 : T_vssdeal_phase) (p_a2 : List (List (List Nat))) (p_a3 : Int) (k1 : Nat) (l1 : List (List (List (List Nat)))) : Option (List (List (List (List Nat)))) :=
  p_a1.zq[k1]? >>= fun x2 =>
  idx p_a2 p_i >>= fun x3 =>
  x3[k1]? >>= fun x4 =>
  mulI ((x2.length : Nat) : Int) p_a3 >>= fun x5 =>
  network_Resize x4 x5 >>= fun r2 =>
  rgS (fun k2 (st : (List (List Nat))) => vssdeal_phase_distribute_2_L1 p_a3 r2 k2 st) (x2.length - 0) 0 ([] : List (List Nat)) >>= fun l4 =>
  idx l1 p_i >>= fun x10 =>
  appO 24 x10 ([l4] : List (List (List Nat))) >>= fun l7 =>
  some (l1.set p_i.toNat l7) >>= fun l8 =>
  some l8
def vssdeal_phase_distribute_2 (p_i : Int) (p_a1 : T_vssdeal_phase) (p_a2 : List (List (List Nat))) (p_a3 : Int) : Option T_api_VSSState :=
  rgS (fun k1 (st : (List (List (List (List Nat))))) => vssdeal_phase_distribute_2_L0 p_i p_a1 p_a2 p_a3 k1 st) (p_a1.zq.length - 0) 0 p_a1.zd.Rows >>= fun l2 =>
  some (⟨p_a1.zd.S, l2, p_a1.zd.Flags⟩ : T_api_VSSState)
def vssdeal_phase_each_vssdeal_phase_distribute_2_al_L0 (p_p : T_vssdeal_phase) (p_do_c1 : List (List (List Nat))) (p_do_c2 : Int) (k1 : Nat) (l1 : List (List (List (List Nat)))) (l2 : List (List (List (List Nat)))) (l3 : List (List (List Nat))) : Option ((List (List (List (List Nat)))) × (List (List (List (List Nat)))) × (List (List (List Nat)))) :=
  vssdeal_phase_distribute_2 ((k1 : Nat) : Int) (⟨p_p.zn, p_p.zs, p_p.zq, (⟨l1, l2, l3⟩ : T_api_VSSState)⟩ : T_vssdeal_phase) p_do_c1 p_do_c2 >>= fun r2 =>
  some (r2.S, r2.Rows, r2.Flags)
def vssdeal_phase_each_vssdeal_phase_distribute_2_al (p_p : T_vssdeal_phase) (p_do_c1 : List (List (List Nat))) (p_do_c2 : Int) : Option T_api_VSSState :=
  ckN (max 0 (p_p.zs.N).toNat) >>= fun u1 =>
  rgS (fun k1 (st : (List (List (List (List Nat)))) × (List (List (List (List Nat)))) × (List (List (List Nat)))) => vssdeal_phase_each_vssdeal_phase_distribute_2_al_L0 p_p p_do_c1 p_do_c2 k1 st.1 st.2.1 st.2.2) ((max 0 (p_p.zs.N).toNat) - 0) 0 (p_p.zd.S, p_p.zd.Rows, p_p.zd.Flags) >>= fun (l4, l5, l6) =>
  some (⟨l4, l5, l6⟩ : T_api_VSSState)
def vssdeal_phase_distribute (p_p : T_vssdeal_phase) : Option (Int × (List (List T_api_Event)) × T_api_VSSState) :=
  addI p_p.zs.T (1 : Int) >>= fun x1 =>
  mkO 24 p_p.zs.N p_p.zs.N ([] : List (List Nat)) >>= fun l1 =>
  vssdeal_phase_each_vssdeal_phase_distribute_1_al p_p l1 >>= fun r1 =>
  network_Net_Send p_p.zn r1 >>= fun r2 =>
  vssdeal_phase_each_vssdeal_phase_distribute_2_al (⟨(⟨p_p.zn.zw, r2.2.1, r2.2.2, p_p.zn.ztapes⟩ : T_network_Net), p_p.zs, p_p.zq, p_p.zd⟩ : T_vssdeal_phase) r2.1 x1 >>= fun r3 =>
  some (r2.2.1, r2.2.2, r3)
def poly_Eval_L0 (p_p : Nat) (p_f : List Nat) (p_x : Nat) (x2 : Nat) (x3 : Int) : Option (Out (Nat × Int) Nat) :=
  bif decide (x3 ≥ (0 : Int)) then
    field_Mul p_p x2 p_x >>= fun r2 =>
    idx p_f x3 >>= fun x6 =>
    field_Add p_p r2 x6 >>= fun r3 =>
    subI x3 (1 : Int) >>= fun x7 =>
    some (.go (r3, x7))
  else
    some (.fin x2)
def poly_Eval (p_p : Nat) (p_f : List Nat) (p_x : Nat) : Option Nat :=
  subI ((p_f.length : Nat) : Int) (1 : Int) >>= fun x1 =>
  lpO (fun (st : Nat × Int) => poly_Eval_L0 p_p p_f p_x st.1 st.2) big (0, x1) >>= fun x5 =>
  some x5
def vssdeal_phase_values_L1 (p_p : T_vssdeal_phase) (p_at : Int) (x3 : List (List Nat)) (k2 : Nat) (l3 : List Nat) : Option (List Nat) :=
  x3[k2]? >>= fun x5 =>
  some (toU p_at) >>= fun x6 =>
  poly_Eval p_p.zs.P x5 x6 >>= fun r3 =>
  appO 8 l3 ([r3] : List Nat) >>= fun l5 =>
  some l5
def vssdeal_phase_values_L0 (p_p : T_vssdeal_phase) (p_at : Int) (x1 : List (List (List Nat))) (k1 : Nat) (l1 : List Nat) : Option (List Nat) :=
  x1[k1]? >>= fun x3 =>
  rgS (fun k2 (st : (List Nat)) => vssdeal_phase_values_L1 p_p p_at x3 k2 st) (x3.length - 0) 0 l1 >>= fun l4 =>
  some l4
def vssdeal_phase_values (p_p : T_vssdeal_phase) (p_i : Int) (p_at : Int) : Option (List Nat) :=
  idx p_p.zd.Rows p_i >>= fun x1 =>
  ckN x1.length >>= fun u1 =>
  rgS (fun k1 (st : (List Nat)) => vssdeal_phase_values_L0 p_p p_at x1 k1 st) (x1.length - 0) 0 ([] : List Nat) >>= fun l2 =>
  some l2
def vssdeal_phase_compare_1_L0 (p_i : Int) (p_a1 : T_vssdeal_phase) (k1 : Nat) (l1 : List (List (List Nat))) : Option (List (List (List Nat))) :=
  idx l1 p_i >>= fun x2 =>
  vssdeal_phase_values p_a1 p_i ((k1 : Nat) : Int) >>= fun r2 =>
  appO 24 x2 ([r2] : List (List Nat)) >>= fun l3 =>
  some (l1.set p_i.toNat l3) >>= fun l4 =>
  some l4
def vssdeal_phase_compare_1 (p_i : Int) (p_a1 : T_vssdeal_phase) (p_a2 : List (List (List Nat))) : Option (List (List (List Nat))) :=
  ckN (max 1 (p_a1.zs.N + 1).toNat) >>= fun u1 =>
  rgS (fun k1 (st : (List (List (List Nat)))) => vssdeal_phase_compare_1_L0 p_i p_a1 k1 st) ((max 1 (p_a1.zs.N + 1).toNat) - 1) 1 p_a2 >>= fun l2 =>
  some l2
def vssdeal_phase_each_vssdeal_phase_compare_1_al_L0 (p_p : T_vssdeal_phase) (k1 : Nat) (l1 : List (List (List Nat))) : Option (List (List (List Nat))) :=
  vssdeal_phase_compare_1 ((k1 : Nat) : Int) p_p l1 >>= fun r2 =>
  some r2
def vssdeal_phase_each_vssdeal_phase_compare_1_al (p_p : T_vssdeal_phase) (p_do_c1 : List (List (List Nat))) : Option (List (List (List Nat))) :=
  ckN (max 0 (p_p.zs.N).toNat) >>= fun u1 =>
  rgS (fun k1 (st : (List (List (List Nat)))) => vssdeal_phase_each_vssdeal_phase_compare_1_al_L0 p_p k1 st) ((max 0 (p_p.zs.N).toNat) - 0) 0 p_do_c1 >>= fun l2 =>
  some l2
def vssdeal_phase_compare (p_p : T_vssdeal_phase) : Option ((List (List (List Nat))) × Int × (List (List T_api_Event))) :=
  mkO 24 p_p.zs.N p_p.zs.N ([] : List (List Nat)) >>= fun l1 =>
  vssdeal_phase_each_vssdeal_phase_compare_1_al p_p l1 >>= fun r1 =>
  network_Net_Send p_p.zn r1 >>= fun r2 =>
  some (r2.1, r2.2.1, r2.2.2)
def vssdeal_phase_flags_L2 (p_p : T_vssdeal_phase) (k1 : Nat) (r2 : (List Nat)) (r3 : (List Nat)) (k2 : Nat) (k3 : Nat) (l6 : List Nat) (x9 : Int) : Option ((List Nat) × Int) :=
  idx r3 x9 >>= fun x12 =>
  idx r2 x9 >>= fun x13 =>
  bif ((x12 : Nat) : Int) != ((x13 : Nat) : Int) then
    mulI ((k2 : Nat) : Int) p_p.zs.N >>= fun x14 =>
    addI x14 ((k1 : Nat) : Int) >>= fun x15 =>
    idx l6 x15 >>= fun x16 =>
    some (l6.set x15.toNat 1) >>= fun l8 =>
    addI x9 (1 : Int) >>= fun x17 =>
    some (l8, x17)
  else
    addI x9 (1 : Int) >>= fun x18 =>
    some (l6, x18)
def vssdeal_phase_flags_L1 (p_p : T_vssdeal_phase) (k1 : Nat) (r2 : (List Nat)) (r3 : (List Nat)) (k2 : Nat) (l4 : List Nat) (x5 : Int) : Option ((List Nat) × Int) :=
  p_p.zq[k2]? >>= fun x8 =>
  rgS (fun k3 (st : (List Nat) × Int) => vssdeal_phase_flags_L2 p_p k1 r2 r3 k2 k3 st.1 st.2) (x8.length - 0) 0 (l4, x5) >>= fun (l7, x11) =>
  some (l7, x11)
def vssdeal_phase_flags_L0 (p_p : T_vssdeal_phase) (p_i : Int) (p_heard : List (List Nat)) (k1 : Nat) (l2 : List Nat) : Option (List Nat) :=
  bif ((k1 : Nat) : Int) == p_i then
    some l2
  else
    addI ((k1 : Nat) : Int) (1 : Int) >>= fun x3 =>
    vssdeal_phase_values p_p p_i x3 >>= fun r2 =>
    p_heard[k1]? >>= fun x4 =>
    network_Resize x4 ((r2.length : Nat) : Int) >>= fun r3 =>
    rgS (fun k2 (st : (List Nat) × Int) => vssdeal_phase_flags_L1 p_p k1 r2 r3 k2 st.1 st.2) (p_p.zq.length - 0) 0 (l2, ((0 : Nat) : Int)) >>= fun (l5, x7) =>
    some l5
def vssdeal_phase_flags (p_p : T_vssdeal_phase) (p_i : Int) (p_heard : List (List Nat)) : Option (List Nat) :=
  mulI p_p.zs.N p_p.zs.N >>= fun x1 =>
  mkO 8 x1 x1 (0 : Nat) >>= fun l1 =>
  ckN (max 0 (p_p.zs.N).toNat) >>= fun u1 =>
  rgS (fun k1 (st : (List Nat)) => vssdeal_phase_flags_L0 p_p p_i p_heard k1 st) ((max 0 (p_p.zs.N).toNat) - 0) 0 l1 >>= fun l3 =>
  some l3
def vssdeal_phase_complain_1 (p_i : Int) (p_a1 : T_vssdeal_phase) (p_a2 : List (List (List Nat))) (p_a3 : List (List Nat)) : Option (List (List Nat)) :=
  idx p_a2 p_i >>= fun x1 =>
  vssdeal_phase_flags p_a1 p_i x1 >>= fun r1 =>
  idx p_a3 p_i >>= fun x2 =>
  some (p_a3.set p_i.toNat r1) >>= fun l1 =>
  some l1
def vssdeal_phase_each_vssdeal_phase_complain_1_al_L0 (p_p : T_vssdeal_phase) (p_do_c1 : List (List (List Nat))) (k1 : Nat) (l1 : List (List Nat)) : Option (List (List Nat)) :=
  vssdeal_phase_complain_1 ((k1 : Nat) : Int) p_p p_do_c1 l1 >>= fun r2 =>
  some r2
def vssdeal_phase_each_vssdeal_phase_complain_1_al (p_p : T_vssdeal_phase) (p_do_c1 : List (List (List Nat))) (p_do_c2 : List (List Nat)) : Option (List (List Nat)) :=
  ckN (max 0 (p_p.zs.N).toNat) >>= fun u1 =>
  rgS (fun k1 (st : (List (List Nat))) => vssdeal_phase_each_vssdeal_phase_complain_1_al_L0 p_p p_do_c1 k1 st) ((max 0 (p_p.zs.N).toNat) - 0) 0 p_do_c2 >>= fun l2 =>
  some l2
def adversary_ApplyToBroadcasts_L0 (p_w : T_api_Scenario) (p_round : Int) (p_out : List (List Nat)) (k1 : Nat) (l1 : List (List Nat)) : Option (List (List Nat)) :=
  p_w.Deviations[k1]? >>= fun x2 =>
  adversary_done p_w x2 p_round >>= fun r3 =>
  bif !r3 then
    some l1
  else
    (
      bif x2.Kind == (3 : Int) then
        subI x2.Of (1 : Int) >>= fun x3 =>
        idx p_out x3 >>= fun x4 =>
        some x4
      else
        some ([] : List Nat)
    ) >>= fun l3 =>
    subI x2.From (1 : Int) >>= fun x5 =>
    idx l1 x5 >>= fun x6 =>
    adversary_upon p_w x2 x6 l3 >>= fun r4 =>
    some (l1.set x5.toNat r4) >>= fun l4 =>
    some l4
def adversary_ApplyToBroadcasts (p_w : T_api_Scenario) (p_round : Int) (p_out : List (List Nat)) : Option (List (List Nat)) :=
  slices_Clone_LLuint64_Luint64 p_out >>= fun r1 =>
  rgS (fun k1 (st : (List (List Nat))) => adversary_ApplyToBroadcasts_L0 p_w p_round p_out k1 st) (p_w.Deviations.length - 0) 0 r1 >>= fun l2 =>
  some l2
def network_Net_Broadcast_L1 (p_n : T_network_Net) (k1 : Nat) (l7 : List (List Nat)) (k2 : Nat) (l8 : List (List T_api_Event)) : Option (List (List T_api_Event)) :=
  l7[k1]? >>= fun x5 =>
  network_Net_note (⟨p_n.zw, p_n.zround, l8, p_n.ztapes⟩ : T_network_Net) ((k2 : Nat) : Int) ((k1 : Nat) : Int) x5 >>= fun r4 =>
  some r4
def network_Net_Broadcast_L0 (p_n : T_network_Net) (r1 : (List (List Nat))) (k1 : Nat) (l2 : List (List T_api_Event)) (l3 : List (List Nat)) : Option ((List (List T_api_Event)) × (List (List Nat))) :=
  r1[k1]? >>= fun x2 =>
  appO 8 ([] : List Nat) x2 >>= fun l6 =>
  l3[k1]? >>= fun x3 =>
  some (l3.set k1 l6) >>= fun l7 =>
  rgS (fun k2 (st : (List (List T_api_Event))) => network_Net_Broadcast_L1 p_n k1 l7 k2 st) (l7.length - 0) 0 l2 >>= fun l9 =>
  some (l9, l7)
def network_Net_Broadcast (p_n : T_network_Net) (p_out : List (List Nat)) : Option ((List (List Nat)) × Int × (List (List T_api_Event))) :=
  adversary_ApplyToBroadcasts p_n.zw p_n.zround p_out >>= fun r1 =>
  mkO 24 p_n.zw.S.N p_n.zw.S.N (([] : List Nat) : List Nat) >>= fun l1 =>
  rgS (fun k1 (st : (List (List T_api_Event)) × (List (List Nat))) => network_Net_Broadcast_L0 p_n r1 k1 st.1 st.2) (l1.length - 0) 0 (p_n.zviews, l1) >>= fun (l4, l5) =>
  addI p_n.zround (1 : Int) >>= fun x6 =>
  some (l5, x6, l4)
def vssdeal_phase_complain_2_L0 (p_i : Int) (p_a2 : T_vssdeal_phase) (r1 : (List Nat)) (k1 : Nat) (l1 : List (List (List Nat))) : Option (List (List (List Nat))) :=
  idx l1 p_i >>= fun x4 =>
  mulI ((k1 : Nat) : Int) p_a2.zs.N >>= fun x5 =>
  addI ((k1 : Nat) : Int) (1 : Int) >>= fun x6 =>
  mulI x6 p_a2.zs.N >>= fun x7 =>
  cutO r1 x5 x7 >>= fun l3 =>
  appO 24 x4 ([l3] : List (List Nat)) >>= fun l4 =>
  some (l1.set p_i.toNat l4) >>= fun l5 =>
  some l5
def vssdeal_phase_complain_2 (p_i : Int) (p_a1 : List (List Nat)) (p_a2 : T_vssdeal_phase) : Option T_api_VSSState :=
  idx p_a1 p_i >>= fun x1 =>
  mulI p_a2.zs.N p_a2.zs.N >>= fun x2 =>
  network_Resize x1 x2 >>= fun r1 =>
  ckN (max 0 (p_a2.zs.N).toNat) >>= fun u1 =>
  rgS (fun k1 (st : (List (List (List Nat)))) => vssdeal_phase_complain_2_L0 p_i p_a2 r1 k1 st) ((max 0 (p_a2.zs.N).toNat) - 0) 0 p_a2.zd.Flags >>= fun l2 =>
  some (⟨p_a2.zd.S, p_a2.zd.Rows, l2⟩ : T_api_VSSState)
def vssdeal_phase_each_vssdeal_phase_complain_2_al_L0 (p_p : T_vssdeal_phase) (p_do_c0 : List (List Nat)) (k1 : Nat) (l1 : List (List (List (List Nat)))) (l2 : List (List (List (List Nat)))) (l3 : List (List (List Nat))) : Option ((List (List (List (List Nat)))) × (List (List (List (List Nat)))) × (List (List (List Nat)))) :=
  vssdeal_phase_complain_2 ((k1 : Nat) : Int) p_do_c0 (⟨p_p.zn, p_p.zs, p_p.zq, (⟨l1, l2, l3⟩ : T_api_VSSState)⟩ : T_vssdeal_phase) >>= fun r2 =>
  some (r2.S, r2.Rows, r2.Flags)
def vssdeal_phase_each_vssdeal_phase_complain_2_al (p_p : T_vssdeal_phase) (p_do_c0 : List (List Nat)) : Option T_api_VSSState :=
  ckN (max 0 (p_p.zs.N).toNat) >>= fun u1 =>
  rgS (fun k1 (st : (List (List (List (List Nat)))) × (List (List (List (List Nat)))) × (List (List (List Nat)))) => vssdeal_phase_each_vssdeal_phase_complain_2_al_L0 p_p p_do_c0 k1 st.1 st.2.1 st.2.2) ((max 0 (p_p.zs.N).toNat) - 0) 0 (p_p.zd.S, p_p.zd.Rows, p_p.zd.Flags) >>= fun (l4, l5, l6) =>
  some (⟨l4, l5, l6⟩ : T_api_VSSState)
def vssdeal_phase_complain (p_p : T_vssdeal_phase) (p_heard : List (List (List Nat))) : Option (Int × (List (List T_api_Event)) × T_api_VSSState) :=
  mkO 24 p_p.zs.N p_p.zs.N (([] : List Nat) : List Nat) >>= fun l1 =>
  vssdeal_phase_each_vssdeal_phase_complain_1_al p_p p_heard l1 >>= fun r1 =>
  network_Net_Broadcast p_p.zn r1 >>= fun r2 =>
  vssdeal_phase_each_vssdeal_phase_complain_2_al (⟨(⟨p_p.zn.zw, r2.2.1, r2.2.2, p_p.zn.ztapes⟩ : T_network_Net), p_p.zs, p_p.zq, p_p.zd⟩ : T_vssdeal_phase) r2.1 >>= fun r3 =>
  some (r2.2.1, r2.2.2, r3)
def vssdeal_Distribute (p_n : T_network_Net) (p_q : List (List (List Nat))) : Option (T_api_VSSState × Int × (List (List T_api_Event)) × (List T_tape_Tape)) :=
  network_Net_Scenario p_n >>= fun r1 =>
  mkO 24 r1.S.N r1.S.N ([] : List (List (List Nat))) >>= fun l1 =>
  mkO 24 r1.S.N r1.S.N ([] : List (List Nat)) >>= fun l2 =>
  vssdeal_phase_choose (⟨p_n, r1.S, p_q, (⟨l1, l1, l2⟩ : T_api_VSSState)⟩ : T_vssdeal_phase) >>= fun r2 =>
  vssdeal_phase_distribute (⟨(⟨p_n.zw, p_n.zround, p_n.zviews, r2.1⟩ : T_network_Net), r1.S, p_q, r2.2⟩ : T_vssdeal_phase) >>= fun r3 =>
  vssdeal_phase_compare (⟨(⟨p_n.zw, r3.1, r3.2.1, r2.1⟩ : T_network_Net), r1.S, p_q, r3.2.2⟩ : T_vssdeal_phase) >>= fun r4 =>
  vssdeal_phase_complain (⟨(⟨p_n.zw, r4.2.1, r4.2.2, r2.1⟩ : T_network_Net), r1.S, p_q, r3.2.2⟩ : T_vssdeal_phase) r4.1 >>= fun r5 =>
  some (r5.2.2, r5.1, r5.2.1, r2.1)
def vss_court_parties (p_c : T_vss_court) : Option Int :=
  some ((p_c.zd.Rows.length : Nat) : Int)
def vss_court_disputed_L1 (k1 : Nat) (x3 : List Nat) (k2 : Nat) (l3 : List T_arr2_3) : Option (List T_arr2_3) :=
  x3[k2]? >>= fun x5 =>
  bif ((x5 : Nat) : Int) != (0 : Int) then
    appO 16 l3 ([(⟨((k1 : Nat) : Int), ((k2 : Nat) : Int)⟩ : T_arr2_3)] : List T_arr2_3) >>= fun l5 =>
    some l5
  else
    some l3
def vss_court_disputed_L0 (p_c : T_vss_court) (p_d : Int) (k1 : Nat) (l1 : List T_arr2_3) : Option (List T_arr2_3) :=
  p_c.zd.Flags[k1]? >>= fun x2 =>
  idx x2 p_d >>= fun x3 =>
  rgS (fun k2 (st : (List T_arr2_3)) => vss_court_disputed_L1 k1 x3 k2 st) (x3.length - 0) 0 l1 >>= fun l4 =>
  some l4
def vss_court_disputed (p_c : T_vss_court) (p_d : Int) : Option (List T_arr2_3) :=
  vss_court_parties p_c >>= fun r1 =>
  ckN (max 0 (r1).toNat) >>= fun u1 =>
  rgS (fun k1 (st : (List T_arr2_3)) => vss_court_disputed_L0 p_c p_d k1 st) ((max 0 (r1).toNat) - 0) 0 ([] : List T_arr2_3) >>= fun l2 =>
  some l2
def vss_at (p_i : Int) : Option Nat :=
  addI p_i (1 : Int) >>= fun x1 =>
  some (toU x1) >>= fun x2 =>
  some x2
def bivariate_Eval (p_p : Nat) (p_s : List (List Nat)) (p_x : Nat) (p_y : Nat) : Option Nat :=
  bivariate_Row p_p p_s p_x >>= fun r1 =>
  poly_Eval p_p r1 p_y >>= fun r2 =>
  some r2
def vss_court_polys (p_c : T_vss_court) (p_d : Int) : Option Int :=
  idx p_c.zd.S p_d >>= fun x1 =>
  some ((x1.length : Nat) : Int)
def vss_hearing_take (p_h : T_vss_hearing) (p_n : Int) : Option ((List Nat) × (List Nat)) :=
  network_Resize p_h.zl p_n >>= fun r1 =>
  some (min p_n ((p_h.zl.length : Nat) : Int)) >>= fun x1 =>
  cutO p_h.zl x1 ((p_h.zl.length : Nat) : Int) >>= fun l1 =>
  some (r1, l1)
def vss_court_answers_L2 (p_c : T_vss_court) (x3 : T_arr2_3) (x4 : List (List (List Nat))) (k3 : Nat) (l5 : List Nat) : Option (List Nat) :=
  x4[k3]? >>= fun x6 =>
  vss_at x3.e0 >>= fun r6 =>
  vss_at x3.e1 >>= fun r7 =>
  bivariate_Eval p_c.zp x6 r6 r7 >>= fun r8 =>
  appO 8 l5 ([r8] : List Nat) >>= fun l7 =>
  some l7
def vss_court_answers_L1 (p_c : T_vss_court) (k1 : Nat) (r3 : (List T_arr2_3)) (k2 : Nat) (l3 : List Nat) : Option (List Nat) :=
  r3[k2]? >>= fun x3 =>
  p_c.zd.S[k1]? >>= fun x4 =>
  rgS (fun k3 (st : (List Nat)) => vss_court_answers_L2 p_c x3 x4 k3 st) (x4.length - 0) 0 l3 >>= fun l6 =>
  some l6
def vss_court_answers_L0 (p_c : T_vss_court) (k1 : Nat) (l1 : List (List Nat)) : Option (List (List Nat)) :=
  vss_court_disputed p_c ((k1 : Nat) : Int) >>= fun r3 =>
  rgS (fun k2 (st : (List Nat)) => vss_court_answers_L1 p_c k1 r3 k2 st) (r3.length - 0) 0 ([] : List Nat) >>= fun l4 =>
  appO 24 l1 ([l4] : List (List Nat)) >>= fun l8 =>
  some l8
def vss_court_answers_L4 (p_c : T_vss_court) (r9 : (List (List Nat)) × Int × (List (List T_api_Event))) (k4 : Nat) (k5 : Nat) (l11 : List Nat) (l12 : List (List Nat)) : Option ((List Nat) × (List (List Nat))) :=
  vss_court_polys (⟨(⟨p_c.zn.zw, r9.2.1, r9.2.2, p_c.zn.ztapes⟩ : T_network_Net), p_c.zp, p_c.zd, p_c.zaccuses, p_c.zobjects, p_c.ztold⟩ : T_vss_court) ((k4 : Nat) : Int) >>= fun r14 =>
  vss_hearing_take (⟨l11⟩ : T_vss_hearing) r14 >>= fun r15 =>
  appO 24 l12 ([r15.1] : List (List Nat)) >>= fun l15 =>
  some (r15.2, l15)
def vss_court_answers_L3 (p_c : T_vss_court) (r9 : (List (List Nat)) × Int × (List (List T_api_Event))) (k4 : Nat) (l9 : List (List (List Nat))) : Option (List (List (List Nat))) :=
  r9.1[k4]? >>= fun x8 =>
  vss_court_disputed (⟨(⟨p_c.zn.zw, r9.2.1, r9.2.2, p_c.zn.ztapes⟩ : T_network_Net), p_c.zp, p_c.zd, p_c.zaccuses, p_c.zobjects, p_c.ztold⟩ : T_vss_court) ((k4 : Nat) : Int) >>= fun r12 =>
  rgS (fun k5 (st : (List Nat) × (List (List Nat))) => vss_court_answers_L4 p_c r9 k4 k5 st.1 st.2) (r12.length - 0) 0 (x8, ([] : List (List Nat))) >>= fun (l13, l14) =>
  appO 24 l9 ([l14] : List (List (List Nat))) >>= fun l16 =>
  some l16
def vss_court_answers (p_c : T_vss_court) : Option ((List (List (List Nat))) × Int × (List (List T_api_Event))) :=
  vss_court_parties p_c >>= fun r1 =>
  ckN (max 0 (r1).toNat) >>= fun u1 =>
  rgS (fun k1 (st : (List (List Nat))) => vss_court_answers_L0 p_c k1 st) ((max 0 (r1).toNat) - 0) 0 ([] : List (List Nat)) >>= fun l2 =>
  network_Net_Broadcast p_c.zn l2 >>= fun r9 =>
  vss_court_parties (⟨(⟨p_c.zn.zw, r9.2.1, r9.2.2, p_c.zn.ztapes⟩ : T_network_Net), p_c.zp, p_c.zd, p_c.zaccuses, p_c.zobjects, p_c.ztold⟩ : T_vss_court) >>= fun r10 =>
  ckN (max 0 (r10).toNat) >>= fun u2 =>
  rgS (fun k4 (st : (List (List (List Nat)))) => vss_court_answers_L3 p_c r9 k4 st) ((max 0 (r10).toNat) - 0) 0 ([] : List (List (List Nat))) >>= fun l10 =>
  some (l10, r9.2.1, r9.2.2)
def vss_others (p_x : T_arr2_3) (p_i : Int) : Option (List Int) :=
  (
    bif p_x.e0 == p_i then
      appO 8 ([] : List Int) ([p_x.e1] : List Int) >>= fun l2 =>
      some l2
    else
      some ([] : List Int)
  ) >>= fun l1 =>
  bif p_x.e1 == p_i then
    appO 8 l1 ([p_x.e0] : List Int) >>= fun l3 =>
    some l3
  else
    some l1
def vss_court_own (p_c : T_vss_court) (p_i : Int) (p_d : Int) (p_k : Int) : Option (List Nat) :=
  idx p_c.zd.Rows p_i >>= fun x1 =>
  idx x1 p_d >>= fun x2 =>
  idx x2 p_k >>= fun x3 =>
  some x3
def vss_court_wronged_L2 (p_c : T_vss_court) (p_i : Int) (p_d : Int) (x2 : Int) (x3 : List Nat) (k3 : Nat) : Option (Out Unit Bool) :=
  x3[k3]? >>= fun x4 =>
  vss_court_own p_c p_i p_d ((k3 : Nat) : Int) >>= fun r6 =>
  vss_at x2 >>= fun r7 =>
  poly_Eval p_c.zp r6 r7 >>= fun r8 =>
  bif ((r8 : Nat) : Int) != ((x4 : Nat) : Int) then
    some (.fin true)
  else
    some (.go ())
def vss_court_wronged_L1 (p_c : T_vss_court) (p_i : Int) (p_d : Int) (p_answers : List (List Nat)) (k1 : Nat) (r3 : (List Int)) (k2 : Nat) : Option (Out Unit Bool) :=
  r3[k2]? >>= fun x2 =>
  p_answers[k1]? >>= fun x3 =>
  rgO (fun k3 (st : Unit) => vss_court_wronged_L2 p_c p_i p_d x2 x3 k3) (x3.length - 0) 0 () >>= fun r5 => outB r5 (fun x => some (.fin x)) fun _ =>
  some (.go ())
def vss_court_wronged_L0 (p_c : T_vss_court) (p_i : Int) (p_d : Int) (p_answers : List (List Nat)) (r1 : (List T_arr2_3)) (k1 : Nat) : Option (Out Unit Bool) :=
  r1[k1]? >>= fun x1 =>
  vss_others x1 p_i >>= fun r3 =>
  rgO (fun k2 (st : Unit) => vss_court_wronged_L1 p_c p_i p_d p_answers k1 r3 k2) (r3.length - 0) 0 () >>= fun r4 => outB r4 (fun x => some (.fin x)) fun _ =>
  some (.go ())
def vss_court_wronged (p_c : T_vss_court) (p_i : Int) (p_d : Int) (p_answers : List (List Nat)) : Option Bool :=
  vss_court_disputed p_c p_d >>= fun r1 =>
  rgO (fun k1 (st : Unit) => vss_court_wronged_L0 p_c p_i p_d p_answers r1 k1) (r1.length - 0) 0 () >>= fun r2 => outB r2 (fun x => some x) fun _ =>
  some false
def vss_Complete_1 (p_i : Int) (p_d : Int) (p_a2 : T_vss_court) (p_a3 : List (List (List Nat))) : Option Bool :=
  idx p_a3 p_d >>= fun x1 =>
  vss_court_wronged p_a2 p_i p_d x1 >>= fun r1 =>
  some r1
def vss_court_vote_vss_Complete_1_al_L1 (p_c : T_vss_court) (p_says_c1 : List (List (List Nat))) (k1 : Nat) (k2 : Nat) (l3 : List Nat) : Option (List Nat) :=
  vss_Complete_1 ((k1 : Nat) : Int) ((k2 : Nat) : Int) p_c p_says_c1 >>= fun r4 =>
  bif r4 then
    appO 8 l3 ([1] : List Nat) >>= fun l5 =>
    some l5
  else
    appO 8 l3 ([0] : List Nat) >>= fun l6 =>
    some l6
def vss_court_vote_vss_Complete_1_al_L0 (p_c : T_vss_court) (p_says_c1 : List (List (List Nat))) (r1 : Int) (k1 : Nat) (l1 : List (List Nat)) : Option (List (List Nat)) :=
  rgS (fun k2 (st : (List Nat)) => vss_court_vote_vss_Complete_1_al_L1 p_c p_says_c1 k1 k2 st) ((max 0 (r1).toNat) - 0) 0 ([] : List Nat) >>= fun l4 =>
  appO 24 l1 ([l4] : List (List Nat)) >>= fun l7 =>
  some l7
def vss_court_vote_vss_Complete_1_al_L3 (r5 : (List (List Nat)) × Int × (List (List T_api_Event))) (r6 : Int) (k3 : Nat) (k4 : Nat) (l11 : List (List Bool)) : Option (List (List Bool)) :=
  l11[k3]? >>= fun x5 =>
  r5.1[k4]? >>= fun x6 =>
  network_Resize x6 r6 >>= fun r9 =>
  r9[k3]? >>= fun x7 =>
  appO 1 x5 ([((x7 : Nat) : Int) != (0 : Int)] : List Bool) >>= fun l13 =>
  some (l11.set k3 l13) >>= fun l14 =>
  some l14
def vss_court_vote_vss_Complete_1_al_L2 (r5 : (List (List Nat)) × Int × (List (List T_api_Event))) (r6 : Int) (k3 : Nat) (l9 : List (List Bool)) : Option (List (List Bool)) :=
  ckN (max 0 (r6).toNat) >>= fun u2 =>
  rgS (fun k4 (st : (List (List Bool))) => vss_court_vote_vss_Complete_1_al_L3 r5 r6 k3 k4 st) ((max 0 (r6).toNat) - 0) 0 l9 >>= fun l12 =>
  some l12
def vss_court_vote_vss_Complete_1_al (p_c : T_vss_court) (p_says_c1 : List (List (List Nat))) : Option ((List (List Bool)) × Int × (List (List T_api_Event))) :=
  vss_court_parties p_c >>= fun r1 =>
  ckN (max 0 (r1).toNat) >>= fun u1 =>
  rgS (fun k1 (st : (List (List Nat))) => vss_court_vote_vss_Complete_1_al_L0 p_c p_says_c1 r1 k1 st) ((max 0 (r1).toNat) - 0) 0 ([] : List (List Nat)) >>= fun l2 =>
  network_Net_Broadcast p_c.zn l2 >>= fun r5 =>
  vss_court_parties (⟨(⟨p_c.zn.zw, r5.2.1, r5.2.2, p_c.zn.ztapes⟩ : T_network_Net), p_c.zp, p_c.zd, p_c.zaccuses, p_c.zobjects, p_c.ztold⟩ : T_vss_court) >>= fun r6 =>
  mkO 24 r6 r6 ([] : List Bool) >>= fun l8 =>
  rgS (fun k3 (st : (List (List Bool))) => vss_court_vote_vss_Complete_1_al_L2 r5 r6 k3 st) (l8.length - 0) 0 l8 >>= fun l10 =>
  some (l10, r5.2.1, r5.2.2)
def vss_court_tell_L2 (p_c : T_vss_court) (k2 : Nat) (x5 : List (List (List Nat))) (k3 : Nat) (l5 : List Nat) : Option (List Nat) :=
  x5[k3]? >>= fun x7 =>
  vss_at ((k2 : Nat) : Int) >>= fun r5 =>
  bivariate_Row p_c.zp x7 r5 >>= fun r6 =>
  appO 8 l5 r6 >>= fun l7 =>
  some l7
def vss_court_tell_L1 (p_c : T_vss_court) (k1 : Nat) (x2 : List Bool) (k2 : Nat) (l3 : List Nat) : Option (List Nat) :=
  x2[k2]? >>= fun x4 =>
  bif x4 then
    p_c.zd.S[k1]? >>= fun x5 =>
    rgS (fun k3 (st : (List Nat)) => vss_court_tell_L2 p_c k2 x5 k3 st) (x5.length - 0) 0 l3 >>= fun l6 =>
    some l6
  else
    some l3
def vss_court_tell_L0 (p_c : T_vss_court) (k1 : Nat) (l1 : List (List Nat)) : Option (List (List Nat)) :=
  p_c.zaccuses[k1]? >>= fun x2 =>
  rgS (fun k2 (st : (List Nat)) => vss_court_tell_L1 p_c k1 x2 k2 st) (x2.length - 0) 0 ([] : List Nat) >>= fun l4 =>
  appO 24 l1 ([l4] : List (List Nat)) >>= fun l8 =>
  some l8
def vss_court_tell_L5 (x8 : Int) (k5 : Nat) (k6 : Nat) (l16 : List Nat) (l17 : List (List (List Nat))) : Option ((List Nat) × (List (List (List Nat)))) :=
  l17[k5]? >>= fun x15 =>
  vss_hearing_take (⟨l16⟩ : T_vss_hearing) x8 >>= fun r15 =>
  appO 24 x15 ([r15.1] : List (List Nat)) >>= fun l20 =>
  some (l17.set k5 l20) >>= fun l21 =>
  some (r15.2, l21)
def vss_court_tell_L4 (p_c : T_vss_court) (r7 : (List (List Nat)) × Int × (List (List T_api_Event))) (x8 : Int) (l9 : List (List (List (List Nat)))) (k4 : Nat) (x11 : List Bool) (k5 : Nat) (l12 : List Nat) (l13 : List (List (List Nat))) : Option ((List Nat) × (List (List (List Nat)))) :=
  x11[k5]? >>= fun x13 =>
  bif x13 then
    vss_court_polys (⟨(⟨p_c.zn.zw, r7.2.1, r7.2.2, p_c.zn.ztapes⟩ : T_network_Net), p_c.zp, p_c.zd, p_c.zaccuses, p_c.zobjects, l9⟩ : T_vss_court) ((k4 : Nat) : Int) >>= fun r13 =>
    ckN (max 0 (r13).toNat) >>= fun u3 =>
    rgS (fun k6 (st : (List Nat) × (List (List (List Nat)))) => vss_court_tell_L5 x8 k5 k6 st.1 st.2) ((max 0 (r13).toNat) - 0) 0 (l12, l13) >>= fun (l18, l19) =>
    some (l18, l19)
  else
    some (l12, l13)
def vss_court_tell_L3 (p_c : T_vss_court) (r7 : (List (List Nat)) × Int × (List (List T_api_Event))) (x8 : Int) (k4 : Nat) (l9 : List (List (List (List Nat)))) : Option (List (List (List (List Nat)))) :=
  r7.1[k4]? >>= fun x10 =>
  vss_court_parties (⟨(⟨p_c.zn.zw, r7.2.1, r7.2.2, p_c.zn.ztapes⟩ : T_network_Net), p_c.zp, p_c.zd, p_c.zaccuses, p_c.zobjects, l9⟩ : T_vss_court) >>= fun r11 =>
  mkO 24 r11 r11 ([] : List (List Nat)) >>= fun l11 =>
  p_c.zaccuses[k4]? >>= fun x11 =>
  rgS (fun k5 (st : (List Nat) × (List (List (List Nat)))) => vss_court_tell_L4 p_c r7 x8 l9 k4 x11 k5 st.1 st.2) (x11.length - 0) 0 (x10, l11) >>= fun (l14, l15) =>
  appO 24 l9 ([l15] : List (List (List (List Nat)))) >>= fun l22 =>
  some l22
def vss_court_tell (p_c : T_vss_court) : Option (Int × (List (List T_api_Event)) × (List (List (List (List Nat))))) :=
  vss_court_parties p_c >>= fun r1 =>
  ckN (max 0 (r1).toNat) >>= fun u1 =>
  rgS (fun k1 (st : (List (List Nat))) => vss_court_tell_L0 p_c k1 st) ((max 0 (r1).toNat) - 0) 0 ([] : List (List Nat)) >>= fun l2 =>
  network_Net_Broadcast p_c.zn l2 >>= fun r7 =>
  network_Net_Scenario (⟨p_c.zn.zw, r7.2.1, r7.2.2, p_c.zn.ztapes⟩ : T_network_Net) >>= fun r8 =>
  addI r8.S.T (1 : Int) >>= fun x8 =>
  vss_court_parties (⟨(⟨p_c.zn.zw, r7.2.1, r7.2.2, p_c.zn.ztapes⟩ : T_network_Net), p_c.zp, p_c.zd, p_c.zaccuses, p_c.zobjects, p_c.ztold⟩ : T_vss_court) >>= fun r9 =>
  ckN (max 0 (r9).toNat) >>= fun u2 =>
  rgS (fun k4 (st : (List (List (List (List Nat))))) => vss_court_tell_L3 p_c r7 x8 k4 st) ((max 0 (r9).toNat) - 0) 0 p_c.ztold >>= fun l10 =>
  some (r7.2.1, r7.2.2, l10)
def vss_court_objecting_L1 (p_c : T_vss_court) (p_i : Int) (p_d : Int) (k1 : Nat) (x4 : List (List Nat)) (k2 : Nat) : Option (Out Unit Bool) :=
  x4[k2]? >>= fun x5 =>
  vss_at p_i >>= fun r3 =>
  poly_Eval p_c.zp x5 r3 >>= fun r4 =>
  vss_court_own p_c p_i p_d ((k2 : Nat) : Int) >>= fun r5 =>
  vss_at ((k1 : Nat) : Int) >>= fun r6 =>
  poly_Eval p_c.zp r5 r6 >>= fun r7 =>
  bif ((r4 : Nat) : Int) != ((r7 : Nat) : Int) then
    some (.fin true)
  else
    some (.go ())
def vss_court_objecting_L0 (p_c : T_vss_court) (p_i : Int) (p_d : Int) (x3 : List (List (List Nat))) (k1 : Nat) : Option (Out Unit Bool) :=
  x3[k1]? >>= fun x4 =>
  rgO (fun k2 (st : Unit) => vss_court_objecting_L1 p_c p_i p_d k1 x4 k2) (x4.length - 0) 0 () >>= fun r2 => outB r2 (fun x => some (.fin x)) fun _ =>
  some (.go ())
def vss_court_objecting (p_c : T_vss_court) (p_i : Int) (p_d : Int) : Option Bool :=
  idx p_c.zaccuses p_d >>= fun x1 =>
  idx x1 p_i >>= fun x2 =>
  bif x2 then
    some false
  else
    idx p_c.ztold p_d >>= fun x3 =>
    rgO (fun k1 (st : Unit) => vss_court_objecting_L0 p_c p_i p_d x3 k1) (x3.length - 0) 0 () >>= fun r1 => outB r1 (fun x => some x) fun _ =>
    some false
def vss_court_vote_vss_court_objecting_al_L1 (p_c : T_vss_court) (k1 : Nat) (k2 : Nat) (l3 : List Nat) : Option (List Nat) :=
  vss_court_objecting p_c ((k1 : Nat) : Int) ((k2 : Nat) : Int) >>= fun r4 =>
  bif r4 then
    appO 8 l3 ([1] : List Nat) >>= fun l5 =>
    some l5
  else
    appO 8 l3 ([0] : List Nat) >>= fun l6 =>
    some l6
def vss_court_vote_vss_court_objecting_al_L0 (p_c : T_vss_court) (r1 : Int) (k1 : Nat) (l1 : List (List Nat)) : Option (List (List Nat)) :=
  rgS (fun k2 (st : (List Nat)) => vss_court_vote_vss_court_objecting_al_L1 p_c k1 k2 st) ((max 0 (r1).toNat) - 0) 0 ([] : List Nat) >>= fun l4 =>
  appO 24 l1 ([l4] : List (List Nat)) >>= fun l7 =>
  some l7
def vss_court_vote_vss_court_objecting_al_L3 (r5 : (List (List Nat)) × Int × (List (List T_api_Event))) (r6 : Int) (k3 : Nat) (k4 : Nat) (l11 : List (List Bool)) : Option (List (List Bool)) :=
  l11[k3]? >>= fun x5 =>
  r5.1[k4]? >>= fun x6 =>
  network_Resize x6 r6 >>= fun r9 =>
  r9[k3]? >>= fun x7 =>
  appO 1 x5 ([((x7 : Nat) : Int) != (0 : Int)] : List Bool) >>= fun l13 =>
  some (l11.set k3 l13) >>= fun l14 =>
  some l14
def vss_court_vote_vss_court_objecting_al_L2 (r5 : (List (List Nat)) × Int × (List (List T_api_Event))) (r6 : Int) (k3 : Nat) (l9 : List (List Bool)) : Option (List (List Bool)) :=
  ckN (max 0 (r6).toNat) >>= fun u2 =>
  rgS (fun k4 (st : (List (List Bool))) => vss_court_vote_vss_court_objecting_al_L3 r5 r6 k3 k4 st) ((max 0 (r6).toNat) - 0) 0 l9 >>= fun l12 =>
  some l12
def vss_court_vote_vss_court_objecting_al (p_c : T_vss_court) : Option ((List (List Bool)) × Int × (List (List T_api_Event))) :=
  vss_court_parties p_c >>= fun r1 =>
  ckN (max 0 (r1).toNat) >>= fun u1 =>
  rgS (fun k1 (st : (List (List Nat))) => vss_court_vote_vss_court_objecting_al_L0 p_c r1 k1 st) ((max 0 (r1).toNat) - 0) 0 ([] : List (List Nat)) >>= fun l2 =>
  network_Net_Broadcast p_c.zn l2 >>= fun r5 =>
  vss_court_parties (⟨(⟨p_c.zn.zw, r5.2.1, r5.2.2, p_c.zn.ztapes⟩ : T_network_Net), p_c.zp, p_c.zd, p_c.zaccuses, p_c.zobjects, p_c.ztold⟩ : T_vss_court) >>= fun r6 =>
  mkO 24 r6 r6 ([] : List Bool) >>= fun l8 =>
  rgS (fun k3 (st : (List (List Bool))) => vss_court_vote_vss_court_objecting_al_L2 r5 r6 k3 st) (l8.length - 0) 0 l8 >>= fun l10 =>
  some (l10, r5.2.1, r5.2.2)
def vss_court_out_L0 (p_c : T_vss_court) (p_d : Int) (k1 : Nat) (x1 : Int) : Option Int :=
  idx p_c.zaccuses p_d >>= fun x4 =>
  x4[k1]? >>= fun x5 =>
  bif x5 then
    addI x1 (1 : Int) >>= fun x6 =>
    some x6
  else
    idx p_c.zobjects p_d >>= fun x7 =>
    x7[k1]? >>= fun x8 =>
    bif x8 then
      addI x1 (1 : Int) >>= fun x9 =>
      some x9
    else
      some x1
def vss_court_out (p_c : T_vss_court) (p_d : Int) : Option Bool :=
  vss_court_parties p_c >>= fun r1 =>
  ckN (max 0 (r1).toNat) >>= fun u1 =>
  rgS (fun k1 (st : Int) => vss_court_out_L0 p_c p_d k1 st) ((max 0 (r1).toNat) - 0) 0 ((0 : Nat) : Int) >>= fun x3 =>
  network_Net_Scenario p_c.zn >>= fun r3 =>
  some (decide (x3 > r3.S.T))
def vss_court_held_L0 (p_c : T_vss_court) (k1 : Nat) (l2 : List (List Nat)) : Option (List (List Nat)) :=
  network_Net_Scenario p_c.zn >>= fun r3 =>
  addI r3.S.T (1 : Int) >>= fun x2 =>
  mkO 8 x2 x2 (0 : Nat) >>= fun l4 =>
  l2[k1]? >>= fun x3 =>
  some (l2.set k1 l4) >>= fun l5 =>
  some l5
def vss_court_held (p_c : T_vss_court) (p_i : Int) (p_d : Int) (p_out : Bool) : Option (List (List Nat)) :=
  bif p_out then
    vss_court_polys p_c p_d >>= fun r1 =>
    mkO 24 r1 r1 (([] : List Nat) : List Nat) >>= fun l1 =>
    rgS (fun k1 (st : (List (List Nat))) => vss_court_held_L0 p_c k1 st) (l1.length - 0) 0 l1 >>= fun l3 =>
    some l3
  else
    idx p_c.zaccuses p_d >>= fun x4 =>
    idx x4 p_i >>= fun x5 =>
    bif x5 then
      idx p_c.ztold p_d >>= fun x6 =>
      idx x6 p_i >>= fun x7 =>
      some x7
    else
      idx p_c.zd.Rows p_i >>= fun x8 =>
      idx x8 p_d >>= fun x9 =>
      slices_Clone_LLuint64_Luint64 x9 >>= fun r4 =>
      some r4
def vss_Complete_L0 (p_n : T_network_Net) (p_d : T_api_VSSState) (r1 : T_api_Scenario) (r3 : (List (List Bool)) × Int × (List (List T_api_Event))) (r4 : Int × (List (List T_api_Event)) × (List (List (List (List Nat))))) (r5 : (List (List Bool)) × Int × (List (List T_api_Event))) (k1 : Nat) (l1 : List Bool) : Option (List Bool) :=
  vss_court_out (⟨(⟨p_n.zw, r5.2.1, r5.2.2, p_n.ztapes⟩ : T_network_Net), r1.S.P, p_d, r3.1, r5.1, r4.2.2⟩ : T_vss_court) ((k1 : Nat) : Int) >>= fun r8 =>
  appO 1 l1 ([r8] : List Bool) >>= fun l3 =>
  some l3
def vss_Complete_L2 (p_n : T_network_Net) (p_d : T_api_VSSState) (r1 : T_api_Scenario) (r3 : (List (List Bool)) × Int × (List (List T_api_Event))) (r4 : Int × (List (List T_api_Event)) × (List (List (List (List Nat))))) (r5 : (List (List Bool)) × Int × (List (List T_api_Event))) (l2 : List Bool) (k2 : Nat) (k3 : Nat) (l6 : List (List (List Nat))) : Option (List (List (List Nat))) :=
  l2[k3]? >>= fun x4 =>
  vss_court_held (⟨(⟨p_n.zw, r5.2.1, r5.2.2, p_n.ztapes⟩ : T_network_Net), r1.S.P, p_d, r3.1, r5.1, r4.2.2⟩ : T_vss_court) ((k2 : Nat) : Int) ((k3 : Nat) : Int) x4 >>= fun r11 =>
  appO 24 l6 ([r11] : List (List (List Nat))) >>= fun l8 =>
  some l8
def vss_Complete_L1 (p_n : T_network_Net) (p_d : T_api_VSSState) (r1 : T_api_Scenario) (r3 : (List (List Bool)) × Int × (List (List T_api_Event))) (r4 : Int × (List (List T_api_Event)) × (List (List (List (List Nat))))) (r5 : (List (List Bool)) × Int × (List (List T_api_Event))) (r6 : Int) (l2 : List Bool) (k2 : Nat) (l4 : List (List (List (List Nat)))) : Option (List (List (List (List Nat)))) :=
  rgS (fun k3 (st : (List (List (List Nat)))) => vss_Complete_L2 p_n p_d r1 r3 r4 r5 l2 k2 k3 st) ((max 0 (r6).toNat) - 0) 0 ([] : List (List (List Nat))) >>= fun l7 =>
  appO 24 l4 ([l7] : List (List (List (List Nat)))) >>= fun l9 =>
  some l9
def vss_Complete (p_n : T_network_Net) (p_d : T_api_VSSState) : Option (T_api_VSSResult × Int × (List (List T_api_Event))) :=
  network_Net_Scenario p_n >>= fun r1 =>
  vss_court_answers (⟨p_n, r1.S.P, p_d, ([] : List (List Bool)), ([] : List (List Bool)), ([] : List (List (List (List Nat))))⟩ : T_vss_court) >>= fun r2 =>
  vss_court_vote_vss_Complete_1_al (⟨(⟨p_n.zw, r2.2.1, r2.2.2, p_n.ztapes⟩ : T_network_Net), r1.S.P, p_d, ([] : List (List Bool)), ([] : List (List Bool)), ([] : List (List (List (List Nat))))⟩ : T_vss_court) r2.1 >>= fun r3 =>
  vss_court_tell (⟨(⟨p_n.zw, r3.2.1, r3.2.2, p_n.ztapes⟩ : T_network_Net), r1.S.P, p_d, r3.1, ([] : List (List Bool)), ([] : List (List (List (List Nat))))⟩ : T_vss_court) >>= fun r4 =>
  vss_court_vote_vss_court_objecting_al (⟨(⟨p_n.zw, r4.1, r4.2.1, p_n.ztapes⟩ : T_network_Net), r1.S.P, p_d, r3.1, ([] : List (List Bool)), r4.2.2⟩ : T_vss_court) >>= fun r5 =>
  vss_court_parties (⟨(⟨p_n.zw, r5.2.1, r5.2.2, p_n.ztapes⟩ : T_network_Net), r1.S.P, p_d, r3.1, r5.1, r4.2.2⟩ : T_vss_court) >>= fun r6 =>
  ckN (max 0 (r6).toNat) >>= fun u1 =>
  rgS (fun k1 (st : (List Bool)) => vss_Complete_L0 p_n p_d r1 r3 r4 r5 k1 st) ((max 0 (r6).toNat) - 0) 0 ([] : List Bool) >>= fun l2 =>
  rgS (fun k2 (st : (List (List (List (List Nat))))) => vss_Complete_L1 p_n p_d r1 r3 r4 r5 r6 l2 k2 st) ((max 0 (r6).toNat) - 0) 0 ([] : List (List (List (List Nat)))) >>= fun l5 =>
  some ((⟨l5, l2⟩ : T_api_VSSResult), r5.2.1, r5.2.2)
def vss_Share (p_n : T_network_Net) (p_q : List (List (List Nat))) : Option (T_api_VSSResult × Int × (List (List T_api_Event)) × (List T_tape_Tape)) :=
  vssdeal_Distribute p_n p_q >>= fun r1 =>
  vss_Complete (⟨p_n.zw, r1.2.1, r1.2.2.1, r1.2.2.2⟩ : T_network_Net) r1.1 >>= fun r2 =>
  some (r2.1, r2.2.1, r2.2.2, r1.2.2.2)
def privityref14_Below_L1 (p_p : Nat) (x1 : List Nat) (k2 : Nat) : Option (Out Unit Bool) :=
  x1[k2]? >>= fun x2 =>
  bif decide (((x2 : Nat) : Int) ≥ ((p_p : Nat) : Int)) then
    some (.fin false)
  else
    some (.go ())
def privityref14_Below_L0 (p_p : Nat) (p_l : List (List Nat)) (p_most : Int) (k1 : Nat) : Option (Out Unit Bool) :=
  p_l[k1]? >>= fun x1 =>
  bif decide (((x1.length : Nat) : Int) > p_most) then
    some (.fin false)
  else
    rgO (fun k2 (st : Unit) => privityref14_Below_L1 p_p x1 k2) (x1.length - 0) 0 () >>= fun r2 => outB r2 (fun x => some (.fin x)) fun _ =>
    some (.go ())
def privityref14_Below (p_p : Nat) (p_l : List (List Nat)) (p_most : Int) : Option Bool :=
  rgO (fun k1 (st : Unit) => privityref14_Below_L0 p_p p_l p_most k1) (p_l.length - 0) 0 () >>= fun r1 => outB r1 (fun x => some x) fun _ =>
  some true
def privityref19_Form_L2 (p_s : T_api_Params) (x3 : List (List Nat)) (k3 : Nat) : Option (Out Unit Bool) :=
  x3[k3]? >>= fun x5 =>
  addI p_s.T (1 : Int) >>= fun x6 =>
  bif ((x5.length : Nat) : Int) != x6 then
    some (.fin false)
  else
    privityref14_Below p_s.P x3 x6 >>= fun r4 =>
    bif !r4 then
      some (.fin false)
    else
      some (.go ())
def privityref19_Form_L1 (p_s : T_api_Params) (p_many : List Int) (x2 : List (List (List Nat))) (k2 : Nat) : Option (Out Unit Bool) :=
  x2[k2]? >>= fun x3 =>
  p_many[k2]? >>= fun x4 =>
  bif ((x3.length : Nat) : Int) != x4 then
    some (.fin false)
  else
    ckN (max 0 (x4).toNat) >>= fun u2 =>
    rgO (fun k3 (st : Unit) => privityref19_Form_L2 p_s x3 k3) ((max 0 (x4).toNat) - 0) 0 () >>= fun r3 => outB r3 (fun x => some (.fin x)) fun _ =>
    some (.go ())
def privityref19_Form_L0 (p_s : T_api_Params) (p_d : T_api_VSSResult) (p_many : List Int) (k1 : Nat) : Option (Out Unit Bool) :=
  p_d.Rows[k1]? >>= fun x2 =>
  bif ((x2.length : Nat) : Int) != p_s.N then
    some (.fin false)
  else
    rgO (fun k2 (st : Unit) => privityref19_Form_L1 p_s p_many x2 k2) ((max 0 (p_s.N).toNat) - 0) 0 () >>= fun r2 => outB r2 (fun x => some (.fin x)) fun _ =>
    some (.go ())
def privityref19_Form (p_s : T_api_Params) (p_d : T_api_VSSResult) (p_many : List Int) : Option Bool :=
  (
    bif ((p_d.Rows.length : Nat) : Int) != p_s.N then
      some true
    else
      bif ((p_d.Disqualified.length : Nat) : Int) != p_s.N then
        some true
      else
        some (((p_many.length : Nat) : Int) != p_s.N)
  ) >>= fun x1 =>
  bif x1 then
    some false
  else
    ckN (max 0 (p_s.N).toNat) >>= fun u1 =>
    rgO (fun k1 (st : Unit) => privityref19_Form_L0 p_s p_d p_many k1) ((max 0 (p_s.N).toNat) - 0) 0 () >>= fun r1 => outB r1 (fun x => some x) fun _ =>
    some true
def vss_SharingOf_L0 (p_d : T_api_VSSResult) (p_dealer : Int) (p_k : Int) (k1 : Nat) (l1 : List (List Nat)) : Option (List (List Nat)) :=
  p_d.Rows[k1]? >>= fun x2 =>
  subI p_dealer (1 : Int) >>= fun x3 =>
  idx x2 x3 >>= fun x4 =>
  idx x4 p_k >>= fun x5 =>
  appO 24 l1 ([x5] : List (List Nat)) >>= fun l3 =>
  some l3
def vss_SharingOf (p_d : T_api_VSSResult) (p_dealer : Int) (p_k : Int) : Option (List (List Nat)) :=
  rgS (fun k1 (st : (List (List Nat))) => vss_SharingOf_L0 p_d p_dealer p_k k1 st) (p_d.Rows.length - 0) 0 ([] : List (List Nat)) >>= fun l2 =>
  some l2
def privityref05_Same_L0 (p_a : List Nat) (p_b : List Nat) (k1 : Nat) : Option (Out Unit Bool) :=
  p_a[k1]? >>= fun x1 =>
  p_b[k1]? >>= fun x2 =>
  bif ((x1 : Nat) : Int) != ((x2 : Nat) : Int) then
    some (.fin false)
  else
    some (.go ())
def privityref05_Same (p_a : List Nat) (p_b : List Nat) : Option Bool :=
  bif ((p_a.length : Nat) : Int) != ((p_b.length : Nat) : Int) then
    some false
  else
    rgO (fun k1 (st : Unit) => privityref05_Same_L0 p_a p_b k1) (p_a.length - 0) 0 () >>= fun r1 => outB r1 (fun x => some x) fun _ =>
    some true
def privityref05_SameRows_L0 (p_a : List (List Nat)) (p_b : List (List Nat)) (k1 : Nat) : Option (Out Unit Bool) :=
  p_a[k1]? >>= fun x1 =>
  p_b[k1]? >>= fun x2 =>
  privityref05_Same x1 x2 >>= fun r2 =>
  bif !r2 then
    some (.fin false)
  else
    some (.go ())
def privityref05_SameRows (p_a : List (List Nat)) (p_b : List (List Nat)) : Option Bool :=
  bif ((p_a.length : Nat) : Int) != ((p_b.length : Nat) : Int) then
    some false
  else
    rgO (fun k1 (st : Unit) => privityref05_SameRows_L0 p_a p_b k1) (p_a.length - 0) 0 () >>= fun r1 => outB r1 (fun x => some x) fun _ =>
    some true
def privityref09_Same (p_a : List (List Nat)) (p_b : List (List Nat)) : Option Bool :=
  privityref05_SameRows p_a p_b >>= fun r1 =>
  some r1
def network_Net_Rounds (p_n : T_network_Net) : Option Int :=
  some p_n.zround
def privitylaw19_awake  : Option Bool :=
  privitylaw19_plain >>= fun r1 =>
  network_New r1.1 >>= fun r2 =>
  sumE r2 (fun r3 =>
    some false)
  (fun r4 =>
    vss_Share r4 r1.2 >>= fun r5 =>
    privityref19_Form r1.1.S r5.1 ([((1 : Nat) : Int), ((0 : Nat) : Int), ((0 : Nat) : Int), ((0 : Nat) : Int)] : List Int) >>= fun r6 =>
    bif !r6 then
      some false
    else
      vss_SharingOf r5.1 ((1 : Nat) : Int) ((0 : Nat) : Int) >>= fun r7 =>
      privityref09_Same r7 ([([8, 10] : List Nat), ([11, 17] : List Nat), ([14, 24] : List Nat), ([17, 0] : List Nat)] : List (List Nat)) >>= fun r8 =>
      bif r8 then
        r5.1.Disqualified[0]? >>= fun x1 =>
        bif !x1 then
          r5.1.Disqualified[3]? >>= fun x2 =>
          bif !x2 then
            network_Net_Rounds (⟨r4.zw, r5.2.1, r5.2.2.1, r5.2.2.2⟩ : T_network_Net) >>= fun r9 =>
            some (r9 == (7 : Int))
          else
            some false
        else
          some false
      else
        some false)
def privityref01_exps  : Option (List Int) :=
  some ([((5 : Nat) : Int), ((7 : Nat) : Int), ((13 : Nat) : Int), ((17 : Nat) : Int), ((19 : Nat) : Int), ((31 : Nat) : Int), ((61 : Nat) : Int)] : List Int)
def privityref01_Exponent_L0 (p_p : Nat) (r1 : (List Int)) (k1 : Nat) : Option (Out Unit Int) :=
  r1[k1]? >>= fun x1 =>
  some (toU x1) >>= fun x2 =>
  shlU 1 ((x2 : Nat) : Int) >>= fun x3 =>
  some (subU x3 1) >>= fun x4 =>
  bif ((p_p : Nat) : Int) == ((x4 : Nat) : Int) then
    some (.fin x1)
  else
    some (.go ())
def privityref01_Exponent (p_p : Nat) : Option Int :=
  privityref01_exps >>= fun r1 =>
  rgO (fun k1 (st : Unit) => privityref01_Exponent_L0 p_p r1 k1) (r1.length - 0) 0 () >>= fun r2 => outB r2 (fun x => some x) fun _ =>
  some ((0 : Nat) : Int)
def privityref01_Supported (p_p : Nat) : Option Bool :=
  privityref01_Exponent p_p >>= fun r1 =>
  some (decide (r1 > (0 : Int)))
def privityref12_Valid (p_s : T_api_Params) : Option Bool :=
  privityref01_Supported p_s.P >>= fun r1 =>
  bif r1 then
    bif decide (p_s.N ≥ (4 : Int)) then
      bif decide (p_s.N ≤ (13 : Int)) then
        some (toU p_s.N) >>= fun x1 =>
        bif decide (((x1 : Nat) : Int) < ((p_s.P : Nat) : Int)) then
          bif decide (p_s.T ≥ (1 : Int)) then
            bif decide (p_s.T < p_s.N) then
              mulI (3 : Int) p_s.T >>= fun x2 =>
              some (decide (x2 < p_s.N))
            else
              some false
          else
            some false
        else
          some false
      else
        some false
    else
      some false
  else
    some false
def privityref12_ValidCoalition_L0 (p_s : T_api_Params) (p_l : List Int) (k1 : Nat) : Option (Out Unit Bool) :=
  p_l[k1]? >>= fun x2 =>
  bif decide (x2 < (1 : Int)) then
    some (.fin false)
  else
    bif decide (x2 > p_s.N) then
      some (.fin false)
    else
      bif decide (((k1 : Nat) : Int) > (0 : Int)) then
        subI ((k1 : Nat) : Int) (1 : Int) >>= fun x3 =>
        idx p_l x3 >>= fun x4 =>
        bif decide (x2 ≤ x4) then
          some (.fin false)
        else
          some (.go ())
      else
        some (.go ())
def privityref12_ValidCoalition (p_s : T_api_Params) (p_l : List Int) : Option Bool :=
  (
    privityref12_Valid p_s >>= fun r1 =>
    bif !r1 then
      some true
    else
      some (decide (((p_l.length : Nat) : Int) > p_s.T))
  ) >>= fun x1 =>
  bif x1 then
    some false
  else
    rgO (fun k1 (st : Unit) => privityref12_ValidCoalition_L0 p_s p_l k1) (p_l.length - 0) 0 () >>= fun r2 => outB r2 (fun x => some x) fun _ =>
    some true
def privityref12_Deviation (p_s : T_api_Params) (p_l : T_api_Deviation) : Option Bool :=
  bif decide (p_l.Round ≥ (0 : Int)) then
    bif decide (p_l.At ≥ (0 : Int)) then
      bif decide (p_l.SrcIndex ≥ (0 : Int)) then
        bif decide (p_l.From ≥ (1 : Int)) then
          bif decide (p_l.From ≤ p_s.N) then
            bif decide (p_l.To ≥ (0 : Int)) then
              bif decide (p_l.To ≤ p_s.N) then
                bif decide (p_l.Kind ≥ (1 : Int)) then
                  bif decide (p_l.Kind ≤ (4 : Int)) then
                    bif decide (p_l.Of ≥ (0 : Int)) then
                      bif decide (p_l.Of ≤ p_s.N) then
                        bif p_l.Kind != (3 : Int) then
                          some true
                        else
                          some (decide (p_l.Of ≥ (1 : Int)))
                      else
                        some false
                    else
                      some false
                  else
                    some false
                else
                  some false
              else
                some false
            else
              some false
          else
            some false
        else
          some false
      else
        some false
    else
      some false
  else
    some false
def privityref05_Below_L0 (p_p : Nat) (p_l : List Nat) (k1 : Nat) : Option (Out Unit Bool) :=
  p_l[k1]? >>= fun x1 =>
  bif decide (((x1 : Nat) : Int) ≥ ((p_p : Nat) : Int)) then
    some (.fin false)
  else
    some (.go ())
def privityref05_Below (p_p : Nat) (p_l : List Nat) : Option Bool :=
  rgO (fun k1 (st : Unit) => privityref05_Below_L0 p_p p_l k1) (p_l.length - 0) 0 () >>= fun r1 => outB r1 (fun x => some x) fun _ =>
  some true
def privityref12_ValidScenario_L0 (p_w : T_api_Scenario) (k1 : Nat) : Option (Out Unit Bool) :=
  p_w.Deviations[k1]? >>= fun x2 =>
  privityref12_Deviation p_w.S x2 >>= fun r4 =>
  bif !r4 then
    some (.fin false)
  else
    some (.go ())
def privityref12_ValidScenario_L1 (p_w : T_api_Scenario) (k2 : Nat) : Option (Out Unit Bool) :=
  p_w.Tapes[k2]? >>= fun x3 =>
  privityref05_Below p_w.S.P x3 >>= fun r6 =>
  bif !r6 then
    some (.fin false)
  else
    some (.go ())
def privityref12_ValidScenario (p_w : T_api_Scenario) : Option Bool :=
  (
    privityref12_Valid p_w.S >>= fun r1 =>
    bif !r1 then
      some true
    else
      privityref12_ValidCoalition p_w.S p_w.Corrupt >>= fun r2 =>
      bif !r2 then
        some true
      else
        some (((p_w.Tapes.length : Nat) : Int) != p_w.S.N)
  ) >>= fun x1 =>
  bif x1 then
    some false
  else
    rgO (fun k1 (st : Unit) => privityref12_ValidScenario_L0 p_w k1) (p_w.Deviations.length - 0) 0 () >>= fun r3 => outB r3 (fun x => some x) fun _ =>
    rgO (fun k2 (st : Unit) => privityref12_ValidScenario_L1 p_w k2) (p_w.Tapes.length - 0) 0 () >>= fun r5 => outB r5 (fun x => some x) fun _ =>
    some true
def privityref12_Light_L0 (p_w : T_api_Scenario) (p_words : Int) (k1 : Nat) : Option (Out Unit Bool) :=
  p_w.Tapes[k1]? >>= fun x2 =>
  bif decide (((x2.length : Nat) : Int) > p_words) then
    some (.fin false)
  else
    some (.go ())
def privityref12_Light (p_w : T_api_Scenario) (p_parties : Int) (p_lies : Int) (p_words : Int) : Option Bool :=
  (
    bif decide (p_w.S.N > p_parties) then
      some true
    else
      bif decide (((p_w.Deviations.length : Nat) : Int) > p_lies) then
        some true
      else
        some (decide (((p_w.Tapes.length : Nat) : Int) > p_parties))
  ) >>= fun x1 =>
  bif x1 then
    some false
  else
    rgO (fun k1 (st : Unit) => privityref12_Light_L0 p_w p_words k1) (p_w.Tapes.length - 0) 0 () >>= fun r1 => outB r1 (fun x => some x) fun _ =>
    privityref12_ValidScenario p_w >>= fun r2 =>
    some r2
def privityref19_Rest (p_s : T_api_Params) : Option Int :=
  addI p_s.T (1 : Int) >>= fun x1 =>
  mulI p_s.T x1 >>= fun x2 =>
  divI x2 (2 : Int) >>= fun x3 =>
  some x3
def privityref19_Fair_L1 (p_w : T_api_Scenario) (p_q : List (List (List Nat))) (k1 : Nat) (x6 : Int) : Option (Out Int (Bool ⊕ Unit)) :=
  p_q[k1]? >>= fun x7 =>
  bif decide (x6 < ((x7.length : Nat) : Int)) then
    idx x7 x6 >>= fun x8 =>
    addI p_w.S.T (1 : Int) >>= fun x9 =>
    bif ((x8.length : Nat) : Int) != x9 then
      some (.fin (.inl false))
    else
      privityref14_Below p_w.S.P x7 x9 >>= fun r5 =>
      bif !r5 then
        some (.fin (.inl false))
      else
        addI x6 (1 : Int) >>= fun x10 =>
        some (.go x10)
  else
    some (.fin (.inr ()))
def privityref19_Fair_L0 (p_w : T_api_Scenario) (p_q : List (List (List Nat))) (p_polys : Int) (k1 : Nat) : Option (Out Unit Bool) :=
  (
    p_q[k1]? >>= fun x3 =>
    bif decide (((x3.length : Nat) : Int) > p_polys) then
      some true
    else
      p_w.Tapes[k1]? >>= fun x4 =>
      privityref19_Rest p_w.S >>= fun r3 =>
      mulI ((x3.length : Nat) : Int) r3 >>= fun x5 =>
      some (decide (((x4.length : Nat) : Int) < x5))
  ) >>= fun x2 =>
  bif x2 then
    some (.fin false)
  else
    lpO (fun (st : Int) => privityref19_Fair_L1 p_w p_q k1 st) big ((0 : Nat) : Int) >>= fun r4 => sumB r4 (fun x => some (.fin x)) fun _ =>
    some (.go ())
def privityref19_Fair (p_w : T_api_Scenario) (p_q : List (List (List Nat))) (p_parties : Int) (p_lies : Int) (p_polys : Int) : Option Bool :=
  (
    privityref12_Light p_w p_parties p_lies ((60 : Nat) : Int) >>= fun r1 =>
    bif !r1 then
      some true
    else
      some (((p_q.length : Nat) : Int) != p_w.S.N)
  ) >>= fun x1 =>
  bif x1 then
    some false
  else
    rgO (fun k1 (st : Unit) => privityref19_Fair_L0 p_w p_q p_polys k1) (p_q.length - 0) 0 () >>= fun r2 => outB r2 (fun x => some x) fun _ =>
    some true
def privityref19_Many_L0 (p_q : List (List (List Nat))) (k1 : Nat) (l1 : List Int) : Option (List Int) :=
  p_q[k1]? >>= fun x2 =>
  appO 8 l1 ([((x2.length : Nat) : Int)] : List Int) >>= fun l3 =>
  some l3
def privityref19_Many (p_q : List (List (List Nat))) : Option (List Int) :=
  rgS (fun k1 (st : (List Int)) => privityref19_Many_L0 p_q k1 st) (p_q.length - 0) 0 ([] : List Int) >>= fun l2 =>
  some l2
def privitylaw19_run (p_x : T_privitylaw19_Play) : Option (T_api_VSSResult ⊕ (T_network_Net × T_api_VSSResult × Bool)) :=
  network_New p_x.W >>= fun r1 =>
  sumE r1 (fun r2 =>
    some (.inl (⟨([] : List (List (List (List Nat)))), ([] : List Bool)⟩ : T_api_VSSResult)))
  (fun r3 =>
    vss_Share r3 p_x.Q >>= fun r4 =>
    privityref19_Many p_x.Q >>= fun r5 =>
    privityref19_Form p_x.W.S r4.1 r5 >>= fun r6 =>
    some (.inr ((⟨r3.zw, r4.2.1, r4.2.2.1, r4.2.2.2⟩ : T_network_Net), r4.1, r6)))
def privityref10_New_L0 (x6 : Int) (k1 : Nat) (l2 : List (List Nat)) : Option (List (List Nat)) :=
  mkO 8 x6 x6 (0 : Nat) >>= fun l4 =>
  l2[k1]? >>= fun x8 =>
  some (l2.set k1 l4) >>= fun l5 =>
  some l5
def privityref10_New_L2 (p_rest : List Nat) (x1 : Int) (k2 : Nat) (l12 : List (List Nat)) (x19 : Int) (x20 : Int) : Option (Out ((List (List Nat)) × Int × Int) ((List (List Nat)) × Int)) :=
  (
    bif decide (x20 ≤ x1) then
      some (decide (((k2 : Nat) : Int) > (0 : Int)))
    else
      some false
  ) >>= fun x23 =>
  bif x23 then
    l12[k2]? >>= fun x24 =>
    idx l12 x20 >>= fun x25 =>
    idx p_rest x19 >>= fun x26 =>
    idx x24 x20 >>= fun x27 =>
    some (x24.set x20.toNat x26) >>= fun l15 =>
    some (l12.set k2 l15) >>= fun l16 =>
    x25[k2]? >>= fun x28 =>
    idx l16 x20 >>= fun x29 =>
    x29[k2]? >>= fun x30 =>
    some (x29.set k2 x26) >>= fun l17 =>
    some (l16.set x20.toNat l17) >>= fun l18 =>
    addI x19 (1 : Int) >>= fun x31 =>
    addI x20 (1 : Int) >>= fun x32 =>
    some (.go (l18, x31, x32))
  else
    some (.fin (l12, x19))
def privityref10_New_L1 (p_first : List Nat) (p_rest : List Nat) (x1 : Int) (k2 : Nat) (l6 : List (List Nat)) (x9 : Int) : Option ((List (List Nat)) × Int) :=
  l6[0]? >>= fun x12 =>
  l6[k2]? >>= fun x13 =>
  p_first[k2]? >>= fun x14 =>
  x12[k2]? >>= fun x15 =>
  some (x12.set k2 x14) >>= fun l8 =>
  some (l6.set 0 l8) >>= fun l9 =>
  x13[0]? >>= fun x16 =>
  l9[k2]? >>= fun x17 =>
  x17[0]? >>= fun x18 =>
  some (x17.set 0 x14) >>= fun l10 =>
  some (l9.set k2 l10) >>= fun l11 =>
  lpO (fun (st : (List (List Nat)) × Int × Int) => privityref10_New_L2 p_rest x1 k2 st.1 st.2.1 st.2.2) big (l11, x9, ((k2 : Nat) : Int)) >>= fun (l14, x22) =>
  some (l14, x22)
def privityref10_New (p_first : List Nat) (p_rest : List Nat) : Option ((List (List Nat)) × Int) :=
  subI ((p_first.length : Nat) : Int) (1 : Int) >>= fun x1 =>
  (
    bif decide (x1 < (0 : Int)) then
      some true
    else
      addI x1 (1 : Int) >>= fun x3 =>
      mulI x1 x3 >>= fun x4 =>
      divI x4 (2 : Int) >>= fun x5 =>
      some (((p_rest.length : Nat) : Int) != x5)
  ) >>= fun x2 =>
  bif x2 then
    some (([] : List (List Nat)), ((1 : Nat) : Int))
  else
    addI x1 (1 : Int) >>= fun x6 =>
    mkO 24 x6 x6 ([] : List Nat) >>= fun l1 =>
    ckN (max 0 (x1 + 1).toNat) >>= fun u1 =>
    rgS (fun k1 (st : (List (List Nat))) => privityref10_New_L0 x6 k1 st) ((max 0 (x1 + 1).toNat) - 0) 0 l1 >>= fun l3 =>
    rgS (fun k2 (st : (List (List Nat)) × Int) => privityref10_New_L1 p_first p_rest x1 k2 st.1 st.2) ((max 0 (x1 + 1).toNat) - 0) 0 (l3, ((0 : Nat) : Int)) >>= fun (l7, x11) =>
    some (l7, ((0 : Nat) : Int))
def privitylaw19_chosen (p_x : T_privitylaw19_Play) (p_m : Int) (p_k : Int) : Option (List (List Nat)) :=
  privityref19_Rest p_x.W.S >>= fun r1 =>
  subI p_m (1 : Int) >>= fun x1 =>
  idx p_x.Q x1 >>= fun x2 =>
  idx x2 p_k >>= fun x3 =>
  idx p_x.W.Tapes x1 >>= fun x4 =>
  mulI p_k r1 >>= fun x5 =>
  addI p_k (1 : Int) >>= fun x6 =>
  mulI x6 r1 >>= fun x7 =>
  cutO x4 x5 x7 >>= fun l1 =>
  privityref10_New x3 l1 >>= fun r2 =>
  some r2.1
def privityref01_Mul_L0 (p_p : Nat) (x1 : Nat) (x2 : Nat) (x3 : Nat) : Option (Out (Nat × Nat × Nat) Nat) :=
  bif decide (((x2 : Nat) : Int) > (0 : Int)) then
    remU x2 2 >>= fun x6 =>
    bif ((x6 : Nat) : Int) == (1 : Int) then
      some (addU x3 x1) >>= fun x7 =>
      remU x7 p_p >>= fun x8 =>
      some (addU x1 x1) >>= fun x9 =>
      remU x9 p_p >>= fun x10 =>
      divU x2 2 >>= fun x11 =>
      some (.go (x10, x11, x8))
    else
      some (addU x1 x1) >>= fun x12 =>
      remU x12 p_p >>= fun x13 =>
      divU x2 2 >>= fun x14 =>
      some (.go (x13, x14, x3))
  else
    some (.fin x3)
def privityref01_Mul (p_p : Nat) (p_a : Nat) (p_b : Nat) : Option Nat :=
  lpO (fun (st : Nat × Nat × Nat) => privityref01_Mul_L0 p_p st.1 st.2.1 st.2.2) big (p_a, p_b, 0) >>= fun x5 =>
  some x5
def privityref01_Add (p_p : Nat) (p_a : Nat) (p_b : Nat) : Option Nat :=
  some (addU p_a p_b) >>= fun x1 =>
  remU x1 p_p >>= fun x2 =>
  some x2
def privityref10_Value_L0 (p_p : Nat) (p_f : List Nat) (p_x : Nat) (x2 : Nat) (x3 : Int) : Option (Out (Nat × Int) Nat) :=
  bif decide (x3 ≥ (0 : Int)) then
    privityref01_Mul p_p x2 p_x >>= fun r2 =>
    idx p_f x3 >>= fun x6 =>
    privityref01_Add p_p r2 x6 >>= fun r3 =>
    subI x3 (1 : Int) >>= fun x7 =>
    some (.go (r3, x7))
  else
    some (.fin x2)
def privityref10_Value (p_p : Nat) (p_f : List Nat) (p_x : Nat) : Option Nat :=
  subI ((p_f.length : Nat) : Int) (1 : Int) >>= fun x1 =>
  lpO (fun (st : Nat × Int) => privityref10_Value_L0 p_p p_f p_x st.1 st.2) big (0, x1) >>= fun x5 =>
  some x5
def privityref10_Row_L1 (p_s : List (List Nat)) (k1 : Nat) (k2 : Nat) (l3 : List Nat) : Option (List Nat) :=
  p_s[k2]? >>= fun x3 =>
  x3[k1]? >>= fun x4 =>
  appO 8 l3 ([x4] : List Nat) >>= fun l5 =>
  some l5
def privityref10_Row_L0 (p_p : Nat) (p_s : List (List Nat)) (p_x : Nat) (k1 : Nat) (l1 : List Nat) : Option (List Nat) :=
  rgS (fun k2 (st : (List Nat)) => privityref10_Row_L1 p_s k1 k2 st) (p_s.length - 0) 0 ([] : List Nat) >>= fun l4 =>
  privityref10_Value p_p l4 p_x >>= fun r3 =>
  appO 8 l1 ([r3] : List Nat) >>= fun l6 =>
  some l6
def privityref10_Row (p_p : Nat) (p_s : List (List Nat)) (p_x : Nat) : Option (List Nat) :=
  rgS (fun k1 (st : (List Nat)) => privityref10_Row_L0 p_p p_s p_x k1 st) (p_s.length - 0) 0 ([] : List Nat) >>= fun l2 =>
  some l2
def network_Net_View (p_n : T_network_Net) (p_i : Int) : Option (List T_api_Event) :=
  subI p_i (1 : Int) >>= fun x1 =>
  idx p_n.zviews x1 >>= fun x2 =>
  appO 40 ([] : List T_api_Event) x2 >>= fun l1 =>
  some l1
def privityref04_Trim_L0 (p_f : List Nat) (x1 : Int) : Option (Out Int Int) :=
  bif decide (x1 > (0 : Int)) then
    subI x1 (1 : Int) >>= fun x4 =>
    idx p_f x4 >>= fun x5 =>
    bif ((x5 : Nat) : Int) == (0 : Int) then
      some (.go x4)
    else
      some (.fin x1)
  else
    some (.fin x1)
def privityref04_Trim (p_f : List Nat) : Option (List Nat) :=
  lpO (fun (st : Int) => privityref04_Trim_L0 p_f st) big ((p_f.length : Nat) : Int) >>= fun x3 =>
  cutO p_f (0 : Int) x3 >>= fun l1 =>
  appO 8 ([] : List Nat) l1 >>= fun l2 =>
  some l2
def privityref04_Degree (p_f : List Nat) : Option Int :=
  privityref04_Trim p_f >>= fun r1 =>
  subI ((r1.length : Nat) : Int) (1 : Int) >>= fun x1 =>
  some x1
def privitylaw19_VSSWithoutDeviations_L2 (p_x : T_privitylaw19_Play) (r5 : T_network_Net × T_api_VSSResult × Bool) (x3 : Int) (x5 : Int) (r9 : (List (List Nat))) (k3 : Nat) : Option (Out Unit Bool) :=
  subI ((k3 : Nat) : Int) (1 : Int) >>= fun x8 =>
  idx r5.2.1.Rows x8 >>= fun x9 =>
  idx x9 x3 >>= fun x10 =>
  idx x10 x5 >>= fun x11 =>
  some (toU ((k3 : Nat) : Int)) >>= fun x12 =>
  privityref10_Row p_x.W.S.P r9 x12 >>= fun r11 =>
  privityref05_Same x11 r11 >>= fun r12 =>
  bif !r12 then
    some (.fin false)
  else
    some (.go ())
def privitylaw19_VSSWithoutDeviations_L1 (p_x : T_privitylaw19_Play) (r5 : T_network_Net × T_api_VSSResult × Bool) (k1 : Nat) (x3 : Int) (x5 : Int) : Option (Out Int (Bool ⊕ Unit)) :=
  idx p_x.Q x3 >>= fun x6 =>
  bif decide (x5 < ((x6.length : Nat) : Int)) then
    privitylaw19_chosen (⟨(⟨p_x.W.S, p_x.W.Corrupt, ([] : List T_api_Deviation), p_x.W.Tapes⟩ : T_api_Scenario), p_x.Q⟩ : T_privitylaw19_Play) ((k1 : Nat) : Int) x5 >>= fun r9 =>
    rgO (fun k3 (st : Unit) => privitylaw19_VSSWithoutDeviations_L2 p_x r5 x3 x5 r9 k3) ((max 1 (p_x.W.S.N + 1).toNat) - 1) 1 () >>= fun r10 => outB r10 (fun x => some (.fin (.inl x))) fun _ =>
    addI x5 (1 : Int) >>= fun x13 =>
    some (.go x13)
  else
    some (.fin (.inr ()))
def privitylaw19_VSSWithoutDeviations_L0 (p_x : T_privitylaw19_Play) (r5 : T_network_Net × T_api_VSSResult × Bool) (k1 : Nat) : Option (Out Unit Bool) :=
  subI ((k1 : Nat) : Int) (1 : Int) >>= fun x3 =>
  idx r5.2.1.Disqualified x3 >>= fun x4 =>
  bif x4 then
    some (.fin false)
  else
    lpO (fun (st : Int) => privitylaw19_VSSWithoutDeviations_L1 p_x r5 k1 x3 st) big ((0 : Nat) : Int) >>= fun r8 => sumB r8 (fun x => some (.fin x)) fun _ =>
    some (.go ())
def privitylaw19_VSSWithoutDeviations_L4 (r14 : (List T_api_Event)) (k5 : Nat) : Option (Out Unit Bool) :=
  r14[k5]? >>= fun x14 =>
  bif decide (x14.Round ≥ (2 : Int)) then
    privityref04_Degree x14.Words >>= fun r16 =>
    bif decide (r16 ≥ (0 : Int)) then
      some (.fin false)
    else
      some (.go ())
  else
    some (.go ())
def privitylaw19_VSSWithoutDeviations_L3 (r5 : T_network_Net × T_api_VSSResult × Bool) (k4 : Nat) : Option (Out Unit Bool) :=
  network_Net_View r5.1 ((k4 : Nat) : Int) >>= fun r14 =>
  rgO (fun k5 (st : Unit) => privitylaw19_VSSWithoutDeviations_L4 r14 k5) (r14.length - 0) 0 () >>= fun r15 => outB r15 (fun x => some (.fin x)) fun _ =>
  some (.go ())
def privitylaw19_VSSWithoutDeviations (p_x : T_privitylaw19_Play) : Option Bool :=
  privitylaw19_awake >>= fun r1 =>
  bif !r1 then
    some false
  else
    privityref19_Fair p_x.W p_x.Q ((7 : Nat) : Int) ((8 : Nat) : Int) ((2 : Nat) : Int) >>= fun r2 =>
    bif !r2 then
      some true
    else
      privitylaw19_run (⟨(⟨p_x.W.S, p_x.W.Corrupt, ([] : List T_api_Deviation), p_x.W.Tapes⟩ : T_api_Scenario), p_x.Q⟩ : T_privitylaw19_Play) >>= fun r3 =>
      sumE r3 (fun r4 =>
        some false)
      (fun r5 =>
        (
          bif !r5.2.2 then
            some true
          else
            network_Net_Rounds r5.1 >>= fun r6 =>
            some (r6 != (7 : Int))
        ) >>= fun x1 =>
        bif x1 then
          some false
        else
          ckN (max 1 (p_x.W.S.N + 1).toNat) >>= fun u1 =>
          rgO (fun k1 (st : Unit) => privitylaw19_VSSWithoutDeviations_L0 p_x r5 k1) ((max 1 (p_x.W.S.N + 1).toNat) - 1) 1 () >>= fun r7 => outB r7 (fun x => some x) fun _ =>
          rgO (fun k4 (st : Unit) => privitylaw19_VSSWithoutDeviations_L3 r5 k4) ((max 1 (p_x.W.S.N + 1).toNat) - 1) 1 () >>= fun r13 => outB r13 (fun x => some x) fun _ =>
          some true)
end Pu
