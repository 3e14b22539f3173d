/- Plain functions: what the Go functions compute, over lists and numbers, in Option (none: a run that is not followed). No Go in it. Printed by a program of this claim. -/
import Derived.Test.YtclhpomlfadohaaGreatDoorWd
set_option linter.unusedVariables false
namespace Pu
open Gw
structure T_api_Params where
  P : Nat
  N : Int
  T : Int
structure T_api_Deviation where
  Round : Int
  From : Int
  To : Int
  At : Int
  Kind : Int
  K : Nat
  Of : Int
  SrcIndex : Int
structure T_api_Scenario where
  S : T_api_Params
  Corrupt : List Int
  Deviations : List T_api_Deviation
  Tapes : List (List Nat)
structure T_api_Event where
  Round : Int
  From : Int
  Words : List Nat
structure T_tape_Tape where
  zwords : List Nat
  zat : Int
structure T_network_Net where
  zw : T_api_Scenario
  zround : Int
  zviews : List (List T_api_Event)
  ztapes : List Unit
structure T_privityref11_Tape where
  Words : List Nat
  At : Int
structure T_privityref14_Net where
  zw : T_api_Scenario
  zround : Int
  zviews : List (List T_api_Event)
  ztapes : List Unit
structure T_api_Point where
  X : Nat
  Y : Nat
structure T_matrix_worked where
  zp : Nat
  zm : List (List Nat)
  zpivot : List Int
  zdet : Nat
structure T_arr3_30 where
  e0 : List Nat
  e1 : List Nat
  e2 : List Nat
structure T_privitylaw25_Ask where
  W : T_api_Scenario
  A : T_arr3_30
  B : T_arr3_30
  R : List Nat
structure T_api_Triple where
  A : List (List Nat)
  B : List (List Nat)
  C : List (List Nat)
structure T_api_Ledger where
  Made : List T_api_Triple
  Used : Int
structure T_triplestore_book where
  Made : List T_api_Triple
  Used : Int
def privityref01_exps  : Option (List Int) :=
  some ([((5 : Nat) : Int), ((7 : Nat) : Int), ((13 : Nat) : Int), ((17 : Nat) : Int), ((19 : Nat) : Int), ((31 : Nat) : Int), ((61 : Nat) : Int)] : List Int)
def privityref01_Exponent_L0 (p_p : Nat) (r1 : (List Int)) (k1 : Nat) : Option (Out Unit Int) :=
  r1[k1]? >>= fun x1 =>
  some (toU x1) >>= fun x2 =>
  shlU 1 ((x2 : Nat) : Int) >>= fun x3 =>
  some (subU x3 1) >>= fun x4 =>
  bif ((p_p : Nat) : Int) == ((x4 : Nat) : Int) then
    some (.fin x1)
  else
    some (.go ())
def privityref01_Exponent (p_p : Nat) : Option Int :=
  privityref01_exps >>= fun r1 =>
  rgO (fun k1 (st : Unit) => privityref01_Exponent_L0 p_p r1 k1) (r1.length - 0) 0 () >>= fun r2 => outB r2 (fun x => some x) fun _ =>
  some ((0 : Nat) : Int)
def privityref01_Supported (p_p : Nat) : Option Bool :=
  privityref01_Exponent p_p >>= fun r1 =>
  some (decide (r1 > (0 : Int)))
def privityref12_Valid (p_s : T_api_Params) : Option Bool :=
  privityref01_Supported p_s.P >>= fun r1 =>
  bif r1 then
    bif decide (p_s.N ≥ (4 : Int)) then
      bif decide (p_s.N ≤ (13 : Int)) then
        some (toU p_s.N) >>= fun x1 =>
        bif decide (((x1 : Nat) : Int) < ((p_s.P : Nat) : Int)) then
          bif decide (p_s.T ≥ (1 : Int)) then
            bif decide (p_s.T < p_s.N) then
              mulI (3 : Int) p_s.T >>= fun x2 =>
              some (decide (x2 < p_s.N))
            else
              some false
          else
            some false
        else
          some false
      else
        some false
    else
      some false
  else
    some false
def privityref12_ValidCoalition_L0 (p_s : T_api_Params) (p_l : List Int) (k1 : Nat) : Option (Out Unit Bool) :=
  p_l[k1]? >>= fun x2 =>
  bif decide (x2 < (1 : Int)) then
    some (.fin false)
  else
    bif decide (x2 > p_s.N) then
      some (.fin false)
    else
      bif decide (((k1 : Nat) : Int) > (0 : Int)) then
        subI ((k1 : Nat) : Int) (1 : Int) >>= fun x3 =>
        idx p_l x3 >>= fun x4 =>
        bif decide (x2 ≤ x4) then
          some (.fin false)
        else
          some (.go ())
      else
        some (.go ())
def privityref12_ValidCoalition (p_s : T_api_Params) (p_l : List Int) : Option Bool :=
  (
    privityref12_Valid p_s >>= fun r1 =>
    bif !r1 then
      some true
    else
      some (decide (((p_l.length : Nat) : Int) > p_s.T))
  ) >>= fun x1 =>
  bif x1 then
    some false
  else
    rgO (fun k1 (st : Unit) => privityref12_ValidCoalition_L0 p_s p_l k1) (p_l.length - 0) 0 () >>= fun r2 => outB r2 (fun x => some x) fun _ =>
    some true
def privityref12_Deviation (p_s : T_api_Params) (p_l : T_api_Deviation) : Option Bool :=
  bif decide (p_l.Round ≥ (0 : Int)) then
    bif decide (p_l.At ≥ (0 : Int)) then
      bif decide (p_l.SrcIndex ≥ (0 : Int)) then
        bif decide (p_l.From ≥ (1 : Int)) then
          bif decide (p_l.From ≤ p_s.N) then
            bif decide (p_l.To ≥ (0 : Int)) then
              bif decide (p_l.To ≤ p_s.N) then
                bif decide (p_l.Kind ≥ (1 : Int)) then
                  bif decide (p_l.Kind ≤ (4 : Int)) then
                    bif decide (p_l.Of ≥ (0 : Int)) then
                      bif decide (p_l.Of ≤ p_s.N) then
                        bif p_l.Kind != (3 : Int) then
                          some true
                        else
                          some (decide (p_l.Of ≥ (1 : Int)))
                      else
                        some false
                    else
                      some false
                  else
                    some false
                else
                  some false
              else
                some false
            else
              some false
          else
            some false
        else
          some false
      else
        some false
    else
      some false
  else
    some false
def privityref05_Below_L0 (p_p : Nat) (p_l : List Nat) (k1 : Nat) : Option (Out Unit Bool) :=
  p_l[k1]? >>= fun x1 =>
  bif decide (((x1 : Nat) : Int) ≥ ((p_p : Nat) : Int)) then
    some (.fin false)
  else
    some (.go ())
def privityref05_Below (p_p : Nat) (p_l : List Nat) : Option Bool :=
  rgO (fun k1 (st : Unit) => privityref05_Below_L0 p_p p_l k1) (p_l.length - 0) 0 () >>= fun r1 => outB r1 (fun x => some x) fun _ =>
  some true
def privityref12_ValidScenario_L0 (p_w : T_api_Scenario) (k1 : Nat) : Option (Out Unit Bool) :=
  p_w.Deviations[k1]? >>= fun x2 =>
  privityref12_Deviation p_w.S x2 >>= fun r4 =>
  bif !r4 then
    some (.fin false)
  else
    some (.go ())
def privityref12_ValidScenario_L1 (p_w : T_api_Scenario) (k2 : Nat) : Option (Out Unit Bool) :=
  p_w.Tapes[k2]? >>= fun x3 =>
  privityref05_Below p_w.S.P x3 >>= fun r6 =>
  bif !r6 then
    some (.fin false)
  else
    some (.go ())
def privityref12_ValidScenario (p_w : T_api_Scenario) : Option Bool :=
  (
    privityref12_Valid p_w.S >>= fun r1 =>
    bif !r1 then
      some true
    else
      privityref12_ValidCoalition p_w.S p_w.Corrupt >>= fun r2 =>
      bif !r2 then
        some true
      else
        some (((p_w.Tapes.length : Nat) : Int) != p_w.S.N)
  ) >>= fun x1 =>
  bif x1 then
    some false
  else
    rgO (fun k1 (st : Unit) => privityref12_ValidScenario_L0 p_w k1) (p_w.Deviations.length - 0) 0 () >>= fun r3 => outB r3 (fun x => some x) fun _ =>
    rgO (fun k2 (st : Unit) => privityref12_ValidScenario_L1 p_w k2) (p_w.Tapes.length - 0) 0 () >>= fun r5 => outB r5 (fun x => some x) fun _ =>
    some true
def field_Exponent_L0 (p_p : Nat) (k1 : Nat) : Option (Out Unit Int) :=
  ([5, 7, 13, 17, 19, 31, 61] : List Int)[k1]? >>= fun x1 =>
  shlU 1 x1 >>= fun x2 =>
  some (subU x2 1) >>= fun x3 =>
  bif ((p_p : Nat) : Int) == ((x3 : Nat) : Int) then
    some (.fin x1)
  else
    some (.go ())
def field_Exponent (p_p : Nat) : Option Int :=
  ckN 7 >>= fun u1 =>
  rgO (fun k1 (st : Unit) => field_Exponent_L0 p_p k1) (7 - 0) 0 () >>= fun r1 => outB r1 (fun x => some x) fun _ =>
  some ((0 : Nat) : Int)
def field_Supported (p_p : Nat) : Option Bool :=
  field_Exponent p_p >>= fun r1 =>
  some (r1 != (0 : Int))
def params_Valid (p_s : T_api_Params) : Option Bool :=
  field_Supported p_s.P >>= fun r1 =>
  bif r1 then
    bif decide (p_s.N ≥ (4 : Int)) then
      bif decide (p_s.N ≤ (13 : Int)) then
        some (toU p_s.N) >>= fun x1 =>
        bif decide (((x1 : Nat) : Int) < ((p_s.P : Nat) : Int)) then
          bif decide (p_s.T ≥ (1 : Int)) then
            bif decide (p_s.T < p_s.N) then
              mulI (3 : Int) p_s.T >>= fun x2 =>
              some (decide (x2 < p_s.N))
            else
              some false
          else
            some false
        else
          some false
      else
        some false
    else
      some false
  else
    some false
def params_ValidCoalition_L0 (p_s : T_api_Params) (p_l : List Int) (k1 : Nat) : Option (Out Unit Bool) :=
  p_l[k1]? >>= fun x2 =>
  bif decide (x2 < (1 : Int)) then
    some (.fin false)
  else
    bif decide (x2 > p_s.N) then
      some (.fin false)
    else
      bif decide (((k1 : Nat) : Int) > (0 : Int)) then
        subI ((k1 : Nat) : Int) (1 : Int) >>= fun x3 =>
        idx p_l x3 >>= fun x4 =>
        bif decide (x4 ≥ x2) then
          some (.fin false)
        else
          some (.go ())
      else
        some (.go ())
def params_ValidCoalition (p_s : T_api_Params) (p_l : List Int) : Option Bool :=
  (
    params_Valid p_s >>= fun r1 =>
    bif !r1 then
      some true
    else
      some (decide (((p_l.length : Nat) : Int) > p_s.T))
  ) >>= fun x1 =>
  bif x1 then
    some false
  else
    rgO (fun k1 (st : Unit) => params_ValidCoalition_L0 p_s p_l k1) (p_l.length - 0) 0 () >>= fun r2 => outB r2 (fun x => some x) fun _ =>
    some true
def params_lie (p_s : T_api_Params) (p_l : T_api_Deviation) : Option Bool :=
  (
    bif p_l.Kind == (3 : Int) then
      some ((1 : Nat) : Int)
    else
      some ((0 : Nat) : Int)
  ) >>= fun x1 =>
  bif decide (p_l.Round ≥ (0 : Int)) then
    bif decide (p_l.At ≥ (0 : Int)) then
      bif decide (p_l.SrcIndex ≥ (0 : Int)) then
        bif decide (p_l.From ≥ (1 : Int)) then
          bif decide (p_l.From ≤ p_s.N) then
            bif decide (p_l.To ≥ (0 : Int)) then
              bif decide (p_l.To ≤ p_s.N) then
                bif decide (p_l.Kind ≥ (1 : Int)) then
                  bif decide (p_l.Kind ≤ (4 : Int)) then
                    bif decide (p_l.Of ≥ x1) then
                      some (decide (p_l.Of ≤ p_s.N))
                    else
                      some false
                  else
                    some false
                else
                  some false
              else
                some false
            else
              some false
          else
            some false
        else
          some false
      else
        some false
    else
      some false
  else
    some false
def params_ValidScenario_1 (p_l : T_api_Deviation) (p_a1 : T_api_Scenario) : Option Bool :=
  params_lie p_a1.S p_l >>= fun r1 =>
  some (!r1)
def slices_IndexFunc_Lapi_Deviation_api_Deviation_params_ValidScenario_1_L0 (p_s : List T_api_Deviation) (p_f_c0 : T_api_Scenario) (k1 : Nat) : Option (Out Unit Int) :=
  p_s[k1]? >>= fun x1 =>
  params_ValidScenario_1 x1 p_f_c0 >>= fun r2 =>
  bif r2 then
    some (.fin ((k1 : Nat) : Int))
  else
    some (.go ())
def slices_IndexFunc_Lapi_Deviation_api_Deviation_params_ValidScenario_1 (p_s : List T_api_Deviation) (p_f_c0 : T_api_Scenario) : Option Int :=
  rgO (fun k1 (st : Unit) => slices_IndexFunc_Lapi_Deviation_api_Deviation_params_ValidScenario_1_L0 p_s p_f_c0 k1) (p_s.length - 0) 0 () >>= fun r1 => outB r1 (fun x => some x) fun _ =>
  some (-1)
def slices_ContainsFunc_Lapi_Deviation_api_Deviation_params_ValidScenario_1 (p_s : List T_api_Deviation) (p_f_c0 : T_api_Scenario) : Option Bool :=
  slices_IndexFunc_Lapi_Deviation_api_Deviation_params_ValidScenario_1 p_s p_f_c0 >>= fun r1 =>
  some (decide (r1 ≥ (0 : Int)))
def params_ValidScenario_2_1 (p_x : Nat) (p_a1 : T_api_Scenario) : Option Bool :=
  some (decide (((p_x : Nat) : Int) ≥ ((p_a1.S.P : Nat) : Int)))
def slices_IndexFunc_Luint64_uint64_params_ValidScenario_2_1_L0 (p_s : List Nat) (p_f_c0 : T_api_Scenario) (k1 : Nat) : Option (Out Unit Int) :=
  p_s[k1]? >>= fun x1 =>
  params_ValidScenario_2_1 x1 p_f_c0 >>= fun r2 =>
  bif r2 then
    some (.fin ((k1 : Nat) : Int))
  else
    some (.go ())
def slices_IndexFunc_Luint64_uint64_params_ValidScenario_2_1 (p_s : List Nat) (p_f_c0 : T_api_Scenario) : Option Int :=
  rgO (fun k1 (st : Unit) => slices_IndexFunc_Luint64_uint64_params_ValidScenario_2_1_L0 p_s p_f_c0 k1) (p_s.length - 0) 0 () >>= fun r1 => outB r1 (fun x => some x) fun _ =>
  some (-1)
def slices_ContainsFunc_Luint64_uint64_params_ValidScenario_2_1 (p_s : List Nat) (p_f_c0 : T_api_Scenario) : Option Bool :=
  slices_IndexFunc_Luint64_uint64_params_ValidScenario_2_1 p_s p_f_c0 >>= fun r1 =>
  some (decide (r1 ≥ (0 : Int)))
def params_ValidScenario_2 (p_l : List Nat) (p_a1 : T_api_Scenario) : Option Bool :=
  slices_ContainsFunc_Luint64_uint64_params_ValidScenario_2_1 p_l p_a1 >>= fun r1 =>
  some r1
def slices_IndexFunc_LLuint64_Luint64_params_ValidScenario_2_L0 (p_s : List (List Nat)) (p_f_c0 : T_api_Scenario) (k1 : Nat) : Option (Out Unit Int) :=
  p_s[k1]? >>= fun x1 =>
  params_ValidScenario_2 x1 p_f_c0 >>= fun r2 =>
  bif r2 then
    some (.fin ((k1 : Nat) : Int))
  else
    some (.go ())
def slices_IndexFunc_LLuint64_Luint64_params_ValidScenario_2 (p_s : List (List Nat)) (p_f_c0 : T_api_Scenario) : Option Int :=
  rgO (fun k1 (st : Unit) => slices_IndexFunc_LLuint64_Luint64_params_ValidScenario_2_L0 p_s p_f_c0 k1) (p_s.length - 0) 0 () >>= fun r1 => outB r1 (fun x => some x) fun _ =>
  some (-1)
def slices_ContainsFunc_LLuint64_Luint64_params_ValidScenario_2 (p_s : List (List Nat)) (p_f_c0 : T_api_Scenario) : Option Bool :=
  slices_IndexFunc_LLuint64_Luint64_params_ValidScenario_2 p_s p_f_c0 >>= fun r1 =>
  some (decide (r1 ≥ (0 : Int)))
def params_ValidScenario (p_w : T_api_Scenario) : Option Bool :=
  params_ValidCoalition p_w.S p_w.Corrupt >>= fun r1 =>
  bif !r1 then
    some false
  else
    bif ((p_w.Tapes.length : Nat) : Int) != p_w.S.N then
      some false
    else
      slices_ContainsFunc_Lapi_Deviation_api_Deviation_params_ValidScenario_1 p_w.Deviations p_w >>= fun r2 =>
      bif r2 then
        some false
      else
        slices_ContainsFunc_LLuint64_Luint64_params_ValidScenario_2 p_w.Tapes p_w >>= fun r3 =>
        some (!r3)
def tape_New (p_words : List Nat) : Option T_tape_Tape :=
  some (⟨p_words, ((0 : Nat) : Int)⟩ : T_tape_Tape)
def network_New_L0 (p_w : T_api_Scenario) (k1 : Nat) (l2 : List Unit) : Option (List Unit) :=
  p_w.Tapes[k1]? >>= fun x2 =>
  tape_New x2 >>= fun r3 =>
  appO 8 l2 ([()] : List Unit) >>= fun l4 =>
  some l4
def network_New (p_w : T_api_Scenario) : Option (Unit ⊕ T_network_Net) :=
  params_ValidScenario p_w >>= fun r1 =>
  bif !r1 then
    some (.inl ())
  else
    mkO 24 p_w.S.N p_w.S.N ([] : List T_api_Event) >>= fun l1 =>
    rgS (fun k1 (st : (List Unit)) => network_New_L0 p_w k1 st) (p_w.Tapes.length - 0) 0 ([] : List Unit) >>= fun l3 =>
    some (.inr (⟨p_w, ((0 : Nat) : Int), l1, l3⟩ : T_network_Net))
def privityref11_New (p_words : List Nat) : Option T_privityref11_Tape :=
  appO 8 ([] : List Nat) p_words >>= fun l1 =>
  some (⟨l1, ((0 : Nat) : Int)⟩ : T_privityref11_Tape)
def privityref14_New_L0 (p_w : T_api_Scenario) (k1 : Nat) (l2 : List Unit) : Option (List Unit) :=
  p_w.Tapes[k1]? >>= fun x2 =>
  privityref11_New x2 >>= fun r3 =>
  appO 8 l2 ([()] : List Unit) >>= fun l4 =>
  some l4
def privityref14_New (p_w : T_api_Scenario) : Option (Unit ⊕ T_privityref14_Net) :=
  privityref12_ValidScenario p_w >>= fun r1 =>
  bif !r1 then
    some (.inl ())
  else
    mkO 24 p_w.S.N p_w.S.N ([] : List T_api_Event) >>= fun l1 =>
    ckN (max 0 (p_w.S.N).toNat) >>= fun u1 =>
    rgS (fun k1 (st : (List Unit)) => privityref14_New_L0 p_w k1 st) ((max 0 (p_w.S.N).toNat) - 0) 0 ([] : List Unit) >>= fun l3 =>
    some (.inr (⟨p_w, ((0 : Nat) : Int), l1, l3⟩ : T_privityref14_Net))
def network_Net_Scenario (p_n : T_network_Net) : Option T_api_Scenario :=
  some p_n.zw
def slices_Clone_LLuint64_Luint64 (p_s : List (List Nat)) : Option (List (List Nat)) :=
  appO 24 ([] : List (List Nat)) p_s >>= fun l1 =>
  some l1
def slices_Index_Lint_int_L0 (p_s : List Int) (p_v : Int) (k1 : Nat) : Option (Out Unit Int) :=
  p_s[k1]? >>= fun x1 =>
  bif p_v == x1 then
    some (.fin ((k1 : Nat) : Int))
  else
    some (.go ())
def slices_Index_Lint_int (p_s : List Int) (p_v : Int) : Option Int :=
  rgO (fun k1 (st : Unit) => slices_Index_Lint_int_L0 p_s p_v k1) (p_s.length - 0) 0 () >>= fun r1 => outB r1 (fun x => some x) fun _ =>
  some (-1)
def slices_Contains_Lint_int (p_s : List Int) (p_v : Int) : Option Bool :=
  slices_Index_Lint_int p_s p_v >>= fun r1 =>
  some (decide (r1 ≥ (0 : Int)))
def adversary_done (p_w : T_api_Scenario) (p_x : T_api_Deviation) (p_round : Int) : Option Bool :=
  bif p_x.Round == p_round then
    slices_Contains_Lint_int p_w.Corrupt p_x.From >>= fun r1 =>
    some r1
  else
    some false
def math_bits_Len64 (p_x : Nat) : Option Int :=
  bif p_x == 31 then
    some ((5 : Nat) : Int)
  else
    bif p_x == 127 then
      some ((7 : Nat) : Int)
    else
      bif p_x == 8191 then
        some ((13 : Nat) : Int)
      else
        bif p_x == 131071 then
          some ((17 : Nat) : Int)
        else
          bif p_x == 524287 then
            some ((19 : Nat) : Int)
          else
            bif p_x == 2147483647 then
              some ((31 : Nat) : Int)
            else
              bif p_x == 2305843009213693951 then
                some ((61 : Nat) : Int)
              else
                none
def field_width (p_p : Nat) : Option Nat :=
  math_bits_Len64 p_p >>= fun r1 =>
  some (toU r1) >>= fun x1 =>
  some x1
def field_fold_L0 (p_p : Nat) (r1 : Nat) (x1 : Nat) (x2 : Nat) : Option (Out (Nat × Nat) Nat) :=
  (
    bif ((x1 : Nat) : Int) != (0 : Int) then
      some true
    else
      some (decide (((x2 : Nat) : Int) > ((p_p : Nat) : Int)))
  ) >>= fun x5 =>
  bif x5 then
    some (andU x2 p_p) >>= fun x6 =>
    shrU x2 ((r1 : Nat) : Int) >>= fun x7 =>
    some (subU 64 r1) >>= fun x8 =>
    shlU x1 ((x8 : Nat) : Int) >>= fun x9 =>
    some (orU x7 x9) >>= fun x10 =>
    shrU x1 ((r1 : Nat) : Int) >>= fun x11 =>
    some (addU x10 x6) >>= fun x12 =>
    some (carU x10 x6) >>= fun x13 =>
    some (addU x11 x13) >>= fun x14 =>
    some (.go (x14, x12))
  else
    some (.fin x2)
def field_fold (p_p : Nat) (p_hi : Nat) (p_lo : Nat) : Option Nat :=
  field_width p_p >>= fun r1 =>
  lpO (fun (st : Nat × Nat) => field_fold_L0 p_p r1 st.1 st.2) big (p_hi, p_lo) >>= fun x4 =>
  bif ((x4 : Nat) : Int) == ((p_p : Nat) : Int) then
    some 0
  else
    some x4
def field_Reduce (p_p : Nat) (p_n : Nat) : Option Nat :=
  field_fold p_p 0 p_n >>= fun r1 =>
  some r1
def slices_Clone_Luint64_uint64 (p_s : List Nat) : Option (List Nat) :=
  appO 8 ([] : List Nat) p_s >>= fun l1 =>
  some l1
def field_Add (p_p : Nat) (p_a : Nat) (p_b : Nat) : Option Nat :=
  some (addU p_a p_b) >>= fun x1 =>
  field_fold p_p 0 x1 >>= fun r1 =>
  some r1
def adversary_word (p_l : List Nat) (p_at : Int) : Option Nat :=
  bif decide (p_at < (0 : Int)) then
    some 0
  else
    bif decide (p_at ≥ ((p_l.length : Nat) : Int)) then
      some 0
    else
      idx p_l p_at >>= fun x1 =>
      some x1
def math_bits_Mul64 (p_x : Nat) (p_y : Nat) : Option (Nat × Nat) :=
  some (andU p_x 4294967295) >>= fun x1 =>
  shrU p_x (32 : Int) >>= fun x2 =>
  some (andU p_y 4294967295) >>= fun x3 =>
  shrU p_y (32 : Int) >>= fun x4 =>
  some (mulU x1 x3) >>= fun x5 =>
  some (mulU x2 x3) >>= fun x6 =>
  shrU x5 (32 : Int) >>= fun x7 =>
  some (addU x6 x7) >>= fun x8 =>
  some (andU x8 4294967295) >>= fun x9 =>
  shrU x8 (32 : Int) >>= fun x10 =>
  some (mulU x1 x4) >>= fun x11 =>
  some (addU x9 x11) >>= fun x12 =>
  some (mulU x2 x4) >>= fun x13 =>
  some (addU x13 x10) >>= fun x14 =>
  shrU x12 (32 : Int) >>= fun x15 =>
  some (addU x14 x15) >>= fun x16 =>
  some (mulU p_x p_y) >>= fun x17 =>
  some (x16, x17)
def field_Mul (p_p : Nat) (p_a : Nat) (p_b : Nat) : Option Nat :=
  math_bits_Mul64 p_a p_b >>= fun r1 =>
  field_fold p_p r1.1 r1.2 >>= fun r2 =>
  some r2
def adversary_upon (p_w : T_api_Scenario) (p_x : T_api_Deviation) (p_l : List Nat) (p_said : List Nat) : Option (List Nat) :=
  bif p_x.Kind == (4 : Int) then
    some ([] : List Nat)
  else
    bif decide (p_x.At ≥ ((p_l.length : Nat) : Int)) then
      some p_l
    else
      field_Reduce p_w.S.P p_x.K >>= fun r1 =>
      slices_Clone_Luint64_uint64 p_l >>= fun r2 =>
      bif p_x.Kind == (1 : Int) then
        idx r2 p_x.At >>= fun x1 =>
        some (r2.set p_x.At.toNat r1) >>= fun l1 =>
        some l1
      else
        bif p_x.Kind == (2 : Int) then
          idx r2 p_x.At >>= fun x2 =>
          field_Add p_w.S.P x2 r1 >>= fun r3 =>
          some (r2.set p_x.At.toNat r3) >>= fun l2 =>
          some l2
        else
          bif p_x.Kind == (3 : Int) then
            slices_Contains_Lint_int p_w.Corrupt p_x.Of >>= fun r4 =>
            (
              bif !r4 then
                adversary_word p_said p_x.SrcIndex >>= fun r5 =>
                some r5
              else
                some 0
            ) >>= fun x3 =>
            idx r2 p_x.At >>= fun x4 =>
            field_Mul p_w.S.P r1 x3 >>= fun r6 =>
            field_Add p_w.S.P x4 r6 >>= fun r7 =>
            some (r2.set p_x.At.toNat r7) >>= fun l3 =>
            some l3
          else
            some r2
def adversary_ApplyToMessages_L0 (p_out : List (List (List Nat))) (k1 : Nat) (l2 : List (List (List Nat))) : Option (List (List (List Nat))) :=
  p_out[k1]? >>= fun x2 =>
  slices_Clone_LLuint64_Luint64 x2 >>= fun r2 =>
  l2[k1]? >>= fun x3 =>
  some (l2.set k1 r2) >>= fun l4 =>
  some l4
def adversary_ApplyToMessages_L2 (p_w : T_api_Scenario) (x5 : T_api_Deviation) (l7 : List Nat) (x10 : Int) (k3 : Nat) (l8 : List (List (List Nat))) : Option (List (List (List Nat))) :=
  (
    addI ((k3 : Nat) : Int) (1 : Int) >>= fun x14 =>
    bif x14 != x5.From then
      bif x5.To == (0 : Int) then
        some true
      else
        some (x5.To == x14)
    else
      some false
  ) >>= fun x13 =>
  bif x13 then
    idx l8 x10 >>= fun x15 =>
    x15[k3]? >>= fun x16 =>
    adversary_upon p_w x5 x16 l7 >>= fun r6 =>
    some (x15.set k3 r6) >>= fun l10 =>
    some (l8.set x10.toNat l10) >>= fun l11 =>
    some l11
  else
    some l8
def adversary_ApplyToMessages_L1 (p_w : T_api_Scenario) (p_round : Int) (p_out : List (List (List Nat))) (k2 : Nat) (l5 : List (List (List Nat))) : Option (List (List (List Nat))) :=
  p_w.Deviations[k2]? >>= fun x5 =>
  adversary_done p_w x5 p_round >>= fun r4 =>
  bif !r4 then
    some l5
  else
    (
      bif x5.Kind == (3 : Int) then
        subI x5.Of (1 : Int) >>= fun x6 =>
        idx p_out x6 >>= fun x7 =>
        subI x5.From (1 : Int) >>= fun x8 =>
        idx x7 x8 >>= fun x9 =>
        some x9
      else
        some ([] : List Nat)
    ) >>= fun l7 =>
    subI x5.From (1 : Int) >>= fun x10 =>
    idx l5 x10 >>= fun x11 =>
    ckN x11.length >>= fun u1 =>
    rgS (fun k3 (st : (List (List (List Nat)))) => adversary_ApplyToMessages_L2 p_w x5 l7 x10 k3 st) (x11.length - 0) 0 l5 >>= fun l9 =>
    some l9
def adversary_ApplyToMessages (p_w : T_api_Scenario) (p_round : Int) (p_out : List (List (List Nat))) : Option (List (List (List Nat))) :=
  mkO 24 ((p_out.length : Nat) : Int) ((p_out.length : Nat) : Int) ([] : List (List Nat)) >>= fun l1 =>
  rgS (fun k1 (st : (List (List (List Nat)))) => adversary_ApplyToMessages_L0 p_out k1 st) (p_out.length - 0) 0 l1 >>= fun l3 =>
  rgS (fun k2 (st : (List (List (List Nat)))) => adversary_ApplyToMessages_L1 p_w p_round p_out k2 st) (p_w.Deviations.length - 0) 0 l3 >>= fun l6 =>
  some l6
def network_Net_note (p_n : T_network_Net) (p_who : Int) (p_from : Int) (p_l : List Nat) : Option (List (List T_api_Event)) :=
  (
    bif p_who != p_from then
      some (decide (((p_l.length : Nat) : Int) > (0 : Int)))
    else
      some false
  ) >>= fun x1 =>
  bif x1 then
    idx p_n.zviews p_who >>= fun x2 =>
    addI p_from (1 : Int) >>= fun x3 =>
    appO 8 ([] : List Nat) p_l >>= fun l1 =>
    appO 40 x2 ([(⟨p_n.zround, x3, l1⟩ : T_api_Event)] : List T_api_Event) >>= fun l2 =>
    some (p_n.zviews.set p_who.toNat l2) >>= fun l3 =>
    some l3
  else
    some p_n.zviews
def network_Net_Send_L1 (p_n : T_network_Net) (r1 : (List (List (List Nat)))) (k1 : Nat) (k2 : Nat) (l6 : List (List T_api_Event)) (l7 : List (List (List Nat))) : Option ((List (List T_api_Event)) × (List (List (List Nat)))) :=
  r1[k2]? >>= fun x3 =>
  x3[k1]? >>= fun x4 =>
  appO 8 ([] : List Nat) x4 >>= fun l10 =>
  l7[k1]? >>= fun x5 =>
  appO 24 x5 ([l10] : List (List Nat)) >>= fun l11 =>
  some (l7.set k1 l11) >>= fun l12 =>
  network_Net_note (⟨p_n.zw, p_n.zround, l6, p_n.ztapes⟩ : T_network_Net) ((k1 : Nat) : Int) ((k2 : Nat) : Int) l10 >>= fun r4 =>
  some (r4, l12)
def network_Net_Send_L0 (p_n : T_network_Net) (r1 : (List (List (List Nat)))) (k1 : Nat) (l2 : List (List T_api_Event)) (l3 : List (List (List Nat))) : Option ((List (List T_api_Event)) × (List (List (List Nat)))) :=
  ckN (max 0 (p_n.zw.S.N).toNat) >>= fun u1 =>
  rgS (fun k2 (st : (List (List T_api_Event)) × (List (List (List Nat)))) => network_Net_Send_L1 p_n r1 k1 k2 st.1 st.2) ((max 0 (p_n.zw.S.N).toNat) - 0) 0 (l2, l3) >>= fun (l8, l9) =>
  some (l8, l9)
def network_Net_Send (p_n : T_network_Net) (p_out : List (List (List Nat))) : Option ((List (List (List Nat))) × Int × (List (List T_api_Event))) :=
  adversary_ApplyToMessages p_n.zw p_n.zround p_out >>= fun r1 =>
  mkO 24 p_n.zw.S.N p_n.zw.S.N ([] : List (List Nat)) >>= fun l1 =>
  rgS (fun k1 (st : (List (List T_api_Event)) × (List (List (List Nat)))) => network_Net_Send_L0 p_n r1 k1 st.1 st.2) (l1.length - 0) 0 (p_n.zviews, l1) >>= fun (l4, l5) =>
  addI p_n.zround (1 : Int) >>= fun x6 =>
  some (l5, x6, l4)
def network_Resize (p_l : List Nat) (p_n : Int) : Option (List Nat) :=
  mkO 8 p_n p_n (0 : Nat) >>= fun l1 =>
  some (copyL l1 p_l)
def reconstruct_said_L1 (k1 : Nat) (x2 : List Nat) (k2 : Nat) (l4 : List (List (List Nat))) : Option (List (List (List Nat))) :=
  l4[k1]? >>= fun x4 =>
  appO 24 x4 ([x2] : List (List Nat)) >>= fun l6 =>
  some (l4.set k1 l6) >>= fun l7 =>
  some l7
def reconstruct_said_L0 (p_lists : List (List Nat)) (k1 : Nat) (l2 : List (List (List Nat))) : Option (List (List (List Nat))) :=
  p_lists[k1]? >>= fun x2 =>
  rgS (fun k2 (st : (List (List (List Nat)))) => reconstruct_said_L1 k1 x2 k2 st) (p_lists.length - 0) 0 l2 >>= fun l5 =>
  some l5
def reconstruct_said_L4 (k3 : Nat) (r6 : (List Nat)) (k5 : Nat) (l15 : List (List (List Nat))) : Option (List (List (List Nat))) :=
  r6[k5]? >>= fun x11 =>
  l15[k3]? >>= fun x12 =>
  x12[k5]? >>= fun x13 =>
  appO 8 x13 ([x11] : List Nat) >>= fun l17 =>
  some (x12.set k5 l17) >>= fun l18 =>
  some (l15.set k3 l18) >>= fun l19 =>
  some l19
def reconstruct_said_L3 (p_m : Int) (k3 : Nat) (x7 : List (List Nat)) (k4 : Nat) (l13 : List (List (List Nat))) : Option (List (List (List Nat))) :=
  x7[k4]? >>= fun x9 =>
  network_Resize x9 p_m >>= fun r6 =>
  rgS (fun k5 (st : (List (List (List Nat)))) => reconstruct_said_L4 k3 r6 k5 st) (r6.length - 0) 0 l13 >>= fun l16 =>
  some l16
def reconstruct_said_L2 (p_m : Int) (r3 : (List (List (List Nat))) × Int × (List (List T_api_Event))) (k3 : Nat) (l9 : List (List (List Nat))) : Option (List (List (List Nat))) :=
  mkO 24 p_m p_m ([] : List Nat) >>= fun l11 =>
  l9[k3]? >>= fun x6 =>
  some (l9.set k3 l11) >>= fun l12 =>
  r3.1[k3]? >>= fun x7 =>
  rgS (fun k4 (st : (List (List (List Nat)))) => reconstruct_said_L3 p_m k3 x7 k4 st) (x7.length - 0) 0 l12 >>= fun l14 =>
  some l14
def reconstruct_said (p_n : T_network_Net) (p_lists : List (List Nat)) (p_m : Int) : Option ((List (List (List Nat))) × Int × (List (List T_api_Event))) :=
  mkO 24 ((p_lists.length : Nat) : Int) ((p_lists.length : Nat) : Int) ([] : List (List Nat)) >>= fun l1 =>
  rgS (fun k1 (st : (List (List (List Nat)))) => reconstruct_said_L0 p_lists k1 st) (p_lists.length - 0) 0 l1 >>= fun l3 =>
  network_Net_Send p_n l3 >>= fun r3 =>
  mkO 24 ((r3.1.length : Nat) : Int) ((r3.1.length : Nat) : Int) ([] : List (List Nat)) >>= fun l8 =>
  rgS (fun k3 (st : (List (List (List Nat)))) => reconstruct_said_L2 p_m r3 k3 st) (r3.1.length - 0) 0 l8 >>= fun l10 =>
  some (l10, r3.2.1, r3.2.2)
def reconstruct_points_L0 (p_words : List Nat) (k1 : Nat) (l1 : List T_api_Point) : Option (List T_api_Point) :=
  p_words[k1]? >>= fun x2 =>
  addI ((k1 : Nat) : Int) (1 : Int) >>= fun x3 =>
  some (toU x3) >>= fun x4 =>
  appO 16 l1 ([(⟨x4, x2⟩ : T_api_Point)] : List T_api_Point) >>= fun l3 =>
  some l3
def reconstruct_points (p_words : List Nat) : Option (List T_api_Point) :=
  rgS (fun k1 (st : (List T_api_Point)) => reconstruct_points_L0 p_words k1 st) (p_words.length - 0) 0 ([] : List T_api_Point) >>= fun l2 =>
  some l2
def reedsolomon_may_L0 (p_pts : List T_api_Point) (k1 : Nat) (l1 : List (Int × Bool)) : Option (Out (List (Int × Bool)) Bool) :=
  p_pts[k1]? >>= fun x6 =>
  bif (mgetO l1 ((x6.X : Nat) : Int)).getD false then
    some (.fin false)
  else
    some (.go (mput l1 ((x6.X : Nat) : Int) true))
def reedsolomon_may (p_pts : List T_api_Point) (p_deg : Int) (p_wrong : Int) : Option Bool :=
  (
    bif decide (p_deg < (0 : Int)) then
      some true
    else
      bif decide (p_wrong < (0 : Int)) then
        some true
      else
        bif decide (p_wrong > ((p_pts.length : Nat) : Int)) then
          some true
        else
          bif decide (p_deg > ((p_pts.length : Nat) : Int)) then
            some true
          else
            addI p_deg (1 : Int) >>= fun x2 =>
            mulI (2 : Int) p_wrong >>= fun x3 =>
            addI x2 x3 >>= fun x4 =>
            some (decide (((p_pts.length : Nat) : Int) < x4))
  ) >>= fun x1 =>
  bif x1 then
    some false
  else
    rgO (fun k1 (st : (List (Int × Bool))) => reedsolomon_may_L0 p_pts k1 st) (p_pts.length - 0) 0 ([] : List (Int × Bool)) >>= fun r1 => outB r1 (fun x => some x) fun l2 =>
    some true
def field_Neg (p_p : Nat) (p_a : Nat) : Option Nat :=
  bif ((p_a : Nat) : Int) == (0 : Int) then
    some 0
  else
    some (subU p_p p_a) >>= fun x1 =>
    some x1
def matrix_rect_1 (p_row : List Nat) (p_a1 : List (List Nat)) : Option Bool :=
  p_a1[0]? >>= fun x1 =>
  some (((p_row.length : Nat) : Int) != ((x1.length : Nat) : Int))
def slices_IndexFunc_LLuint64_Luint64_matrix_rect_1_L0 (p_s : List (List Nat)) (p_f_c0 : List (List Nat)) (k1 : Nat) : Option (Out Unit Int) :=
  p_s[k1]? >>= fun x1 =>
  matrix_rect_1 x1 p_f_c0 >>= fun r2 =>
  bif r2 then
    some (.fin ((k1 : Nat) : Int))
  else
    some (.go ())
def slices_IndexFunc_LLuint64_Luint64_matrix_rect_1 (p_s : List (List Nat)) (p_f_c0 : List (List Nat)) : Option Int :=
  rgO (fun k1 (st : Unit) => slices_IndexFunc_LLuint64_Luint64_matrix_rect_1_L0 p_s p_f_c0 k1) (p_s.length - 0) 0 () >>= fun r1 => outB r1 (fun x => some x) fun _ =>
  some (-1)
def slices_ContainsFunc_LLuint64_Luint64_matrix_rect_1 (p_s : List (List Nat)) (p_f_c0 : List (List Nat)) : Option Bool :=
  slices_IndexFunc_LLuint64_Luint64_matrix_rect_1 p_s p_f_c0 >>= fun r1 =>
  some (decide (r1 ≥ (0 : Int)))
def matrix_rect (p_m : List (List Nat)) : Option Bool :=
  slices_ContainsFunc_LLuint64_Luint64_matrix_rect_1 p_m p_m >>= fun r1 =>
  some (!r1)
def matrix_cols (p_m : List (List Nat)) : Option Int :=
  bif ((p_m.length : Nat) : Int) == (0 : Int) then
    some ((0 : Nat) : Int)
  else
    p_m[0]? >>= fun x1 =>
    some ((x1.length : Nat) : Int)
def field_Pow_L0 (p_p : Nat) (x1 : Nat) (x2 : Nat) (x3 : Nat) : Option (Out (Nat × Nat × Nat) Nat) :=
  bif decide (((x2 : Nat) : Int) > (0 : Int)) then
    some (andU x2 1) >>= fun x6 =>
    bif ((x6 : Nat) : Int) == (1 : Int) then
      field_Mul p_p x3 x1 >>= fun r2 =>
      field_Mul p_p x1 x1 >>= fun r3 =>
      shrU x2 (1 : Int) >>= fun x7 =>
      some (.go (r3, x7, r2))
    else
      field_Mul p_p x1 x1 >>= fun r4 =>
      shrU x2 (1 : Int) >>= fun x8 =>
      some (.go (r4, x8, x3))
  else
    some (.fin x3)
def field_Pow (p_p : Nat) (p_a : Nat) (p_n : Nat) : Option Nat :=
  lpO (fun (st : Nat × Nat × Nat) => field_Pow_L0 p_p st.1 st.2.1 st.2.2) big (p_a, p_n, 1) >>= fun x5 =>
  some x5
def field_Inverse (p_p : Nat) (p_a : Nat) : Option (Nat × Int) :=
  bif ((p_a : Nat) : Int) == (0 : Int) then
    some (0, ((8 : Nat) : Int))
  else
    some (subU p_p 2) >>= fun x1 =>
    field_Pow p_p p_a x1 >>= fun r1 =>
    some (r1, ((0 : Nat) : Int))
def field_Sub (p_p : Nat) (p_a : Nat) (p_b : Nat) : Option Nat :=
  field_Neg p_p p_b >>= fun r1 =>
  field_Add p_p p_a r1 >>= fun r2 =>
  some r2
def matrix_reduce_L0 (k1 : Nat) (l1 : List (List Nat)) : Option (List (List Nat)) :=
  l1[k1]? >>= fun x2 =>
  slices_Clone_Luint64_uint64 x2 >>= fun r3 =>
  some (l1.set k1 r3) >>= fun l3 =>
  some l3
def matrix_reduce_L2 (l4 : List (List Nat)) (k2 : Nat) (x6 : Int) (x7 : Int) : Option (Out (Int × Int) Int) :=
  (
    bif decide (x7 < ((l4.length : Nat) : Int)) then
      some (decide (x6 < (0 : Int)))
    else
      some false
  ) >>= fun x10 =>
  bif x10 then
    idx l4 x7 >>= fun x11 =>
    x11[k2]? >>= fun x12 =>
    bif ((x12 : Nat) : Int) != (0 : Int) then
      addI x7 (1 : Int) >>= fun x13 =>
      some (.go (x7, x13))
    else
      addI x7 (1 : Int) >>= fun x14 =>
      some (.go (x6, x14))
  else
    some (.fin x6)
def matrix_reduce_L3 (p_p : Nat) (l5 : List Int) (x18 : List Nat) (r8 : Nat × Int) (k3 : Nat) (l10 : List (List Nat)) : Option (List (List Nat)) :=
  x18[k3]? >>= fun x21 =>
  l10[l5.length]? >>= fun x22 =>
  x22[k3]? >>= fun x23 =>
  field_Mul p_p r8.1 x23 >>= fun r10 =>
  some (x22.set k3 r10) >>= fun l12 =>
  some (l10.set l5.length l12) >>= fun l13 =>
  some l13
def matrix_reduce_L5 (p_p : Nat) (l5 : List Int) (k4 : Nat) (x25 : List Nat) (x28 : Nat) (x29 : List Nat) (k5 : Nat) (l16 : List (List Nat)) : Option (List (List Nat)) :=
  x29[k5]? >>= fun x31 =>
  l16[l5.length]? >>= fun x32 =>
  x32[k5]? >>= fun x33 =>
  x25[k5]? >>= fun x34 =>
  l16[k4]? >>= fun x35 =>
  x35[k5]? >>= fun x36 =>
  field_Mul p_p x28 x33 >>= fun r13 =>
  field_Sub p_p x36 r13 >>= fun r14 =>
  some (x35.set k5 r14) >>= fun l18 =>
  some (l16.set k4 l18) >>= fun l19 =>
  some l19
def matrix_reduce_L4 (p_p : Nat) (l5 : List Int) (k2 : Nat) (k4 : Nat) (l14 : List (List Nat)) : Option (List (List Nat)) :=
  l14[k4]? >>= fun x25 =>
  (
    bif ((k4 : Nat) : Int) == ((l5.length : Nat) : Int) then
      some true
    else
      x25[k2]? >>= fun x27 =>
      some (((x27 : Nat) : Int) == (0 : Int))
  ) >>= fun x26 =>
  bif x26 then
    some l14
  else
    x25[k2]? >>= fun x28 =>
    l14[l5.length]? >>= fun x29 =>
    ckN x29.length >>= fun u4 =>
    rgS (fun k5 (st : (List (List Nat))) => matrix_reduce_L5 p_p l5 k4 x25 x28 x29 k5 st) (x29.length - 0) 0 l14 >>= fun l17 =>
    some l17
def matrix_reduce_L1 (p_p : Nat) (k2 : Nat) (l4 : List (List Nat)) (l5 : List Int) (x3 : Nat) : Option ((List (List Nat)) × (List Int) × Nat) :=
  lpO (fun (st : Int × Int) => matrix_reduce_L2 l4 k2 st.1 st.2) big ((-1), ((l5.length : Nat) : Int)) >>= fun x9 =>
  bif decide (x9 < (0 : Int)) then
    some (l4, l5, x3)
  else
    (
      bif x9 != ((l5.length : Nat) : Int) then
        l4[l5.length]? >>= fun x16 =>
        idx l4 x9 >>= fun x17 =>
        some ((l4.set x9.toNat x16).set l5.length x17) >>= fun l9 =>
        field_Neg p_p x3 >>= fun r6 =>
        some (l9, r6)
      else
        some (l4, x3)
    ) >>= fun (l8, x15) =>
    l8[l5.length]? >>= fun x18 =>
    x18[k2]? >>= fun x19 =>
    field_Mul p_p x15 x19 >>= fun r7 =>
    field_Inverse p_p x19 >>= fun r8 =>
    ckN x18.length >>= fun u3 =>
    rgS (fun k3 (st : (List (List Nat))) => matrix_reduce_L3 p_p l5 x18 r8 k3 st) (x18.length - 0) 0 l8 >>= fun l11 =>
    rgS (fun k4 (st : (List (List Nat))) => matrix_reduce_L4 p_p l5 k2 k4 st) (l11.length - 0) 0 l11 >>= fun l15 =>
    appO 8 l5 ([((k2 : Nat) : Int)] : List Int) >>= fun l20 =>
    some (l15, l20, r7)
def matrix_reduce (p_p : Nat) (p_m : List (List Nat)) (p_columns : Int) : Option T_matrix_worked :=
  slices_Clone_LLuint64_Luint64 p_m >>= fun r1 =>
  ckN r1.length >>= fun u1 =>
  rgS (fun k1 (st : (List (List Nat))) => matrix_reduce_L0 k1 st) (r1.length - 0) 0 r1 >>= fun l2 =>
  ckN (max 0 (p_columns).toNat) >>= fun u2 =>
  rgS (fun k2 (st : (List (List Nat)) × (List Int) × Nat) => matrix_reduce_L1 p_p k2 st.1 st.2.1 st.2.2) ((max 0 (p_columns).toNat) - 0) 0 (l2, ([] : List Int), 1) >>= fun (l6, l7, x5) =>
  some (⟨p_p, l6, l7, x5⟩ : T_matrix_worked)
def matrix_Solve_L0 (p_m : List (List Nat)) (p_b : List Nat) (k1 : Nat) (l1 : List (List Nat)) : Option (List (List Nat)) :=
  p_m[k1]? >>= fun x3 =>
  slices_Clone_Luint64_uint64 x3 >>= fun r4 =>
  p_b[k1]? >>= fun x4 =>
  appO 8 r4 ([x4] : List Nat) >>= fun l3 =>
  appO 24 l1 ([l3] : List (List Nat)) >>= fun l4 =>
  some l4
def matrix_Solve_L1 (r2 : Int) (l5 : List (List Nat)) (k2 : Nat) : Option (Out Unit ((List Nat) × Int)) :=
  l5[k2]? >>= fun x5 =>
  idx x5 r2 >>= fun x6 =>
  bif ((x6 : Nat) : Int) != (0 : Int) then
    some (.fin (([] : List Nat), ((6 : Nat) : Int)))
  else
    some (.go ())
def matrix_Solve_L2 (r2 : Int) (r5 : T_matrix_worked) (k3 : Nat) (l7 : List Nat) : Option (List Nat) :=
  r5.zpivot[k3]? >>= fun x8 =>
  r5.zm[k3]? >>= fun x9 =>
  idx x9 r2 >>= fun x10 =>
  idx l7 x8 >>= fun x11 =>
  some (l7.set x8.toNat x10) >>= fun l9 =>
  some l9
def matrix_Solve (p_p : Nat) (p_m : List (List Nat)) (p_b : List Nat) : Option ((List Nat) × Int) :=
  (
    matrix_rect p_m >>= fun r1 =>
    bif !r1 then
      some true
    else
      some (((p_m.length : Nat) : Int) != ((p_b.length : Nat) : Int))
  ) >>= fun x1 =>
  bif x1 then
    some (([] : List Nat), ((1 : Nat) : Int))
  else
    matrix_cols p_m >>= fun r2 =>
    rgS (fun k1 (st : (List (List Nat))) => matrix_Solve_L0 p_m p_b k1 st) (p_m.length - 0) 0 ([] : List (List Nat)) >>= fun l2 =>
    matrix_reduce p_p l2 r2 >>= fun r5 =>
    cutO r5.zm ((r5.zpivot.length : Nat) : Int) ((r5.zm.length : Nat) : Int) >>= fun l5 =>
    rgO (fun k2 (st : Unit) => matrix_Solve_L1 r2 l5 k2) (l5.length - 0) 0 () >>= fun r6 => outB r6 (fun x => some x) fun _ =>
    mkO 8 r2 r2 (0 : Nat) >>= fun l6 =>
    rgS (fun k3 (st : (List Nat)) => matrix_Solve_L2 r2 r5 k3 st) (r5.zpivot.length - 0) 0 l6 >>= fun l8 =>
    some (l8, ((0 : Nat) : Int))
def reedsolomon_try_L1 (p_p : Nat) (x2 : T_api_Point) (k2 : Nat) (l5 : List Nat) (x5 : Nat) : Option ((List Nat) × Nat) :=
  appO 8 l5 ([x5] : List Nat) >>= fun l7 =>
  field_Mul p_p x5 x2.X >>= fun r3 =>
  some (l7, r3)
def reedsolomon_try_L2 (p_p : Nat) (x2 : T_api_Point) (k3 : Nat) (l8 : List Nat) (x8 : Nat) : Option ((List Nat) × Nat) :=
  field_Neg p_p x8 >>= fun r5 =>
  appO 8 l8 ([r5] : List Nat) >>= fun l10 =>
  field_Mul p_p x8 x2.X >>= fun r6 =>
  some (l10, r6)
def reedsolomon_try_L0 (p_p : Nat) (p_pts : List T_api_Point) (p_deg : Int) (p_wrong : Int) (k1 : Nat) (l1 : List (List Nat)) (l2 : List Nat) : Option ((List (List Nat)) × (List Nat)) :=
  p_pts[k1]? >>= fun x2 =>
  addI p_deg p_wrong >>= fun x3 =>
  addI x3 (1 : Int) >>= fun x4 =>
  ckN (max 0 (x4).toNat) >>= fun u1 =>
  rgS (fun k2 (st : (List Nat) × Nat) => reedsolomon_try_L1 p_p x2 k2 st.1 st.2) ((max 0 (x4).toNat) - 0) 0 (([] : List Nat), 1) >>= fun (l6, x7) =>
  ckN (max 0 (p_wrong).toNat) >>= fun u2 =>
  rgS (fun k3 (st : (List Nat) × Nat) => reedsolomon_try_L2 p_p x2 k3 st.1 st.2) ((max 0 (p_wrong).toNat) - 0) 0 (l6, x2.Y) >>= fun (l9, x10) =>
  appO 24 l1 ([l9] : List (List Nat)) >>= fun l11 =>
  appO 8 l2 ([x10] : List Nat) >>= fun l12 =>
  some (l11, l12)
def reedsolomon_try (p_p : Nat) (p_pts : List T_api_Point) (p_deg : Int) (p_wrong : Int) : Option ((List Nat) × (List Nat) × Bool) :=
  rgS (fun k1 (st : (List (List Nat)) × (List Nat)) => reedsolomon_try_L0 p_p p_pts p_deg p_wrong k1 st.1 st.2) (p_pts.length - 0) 0 (([] : List (List Nat)), ([] : List Nat)) >>= fun (l3, l4) =>
  matrix_Solve p_p l3 l4 >>= fun r7 =>
  bif r7.2 != (0 : Int) then
    some (([] : List Nat), ([] : List Nat), false)
  else
    addI p_deg p_wrong >>= fun x11 =>
    addI x11 (1 : Int) >>= fun x12 =>
    cutO r7.1 (0 : Int) x12 >>= fun l13 =>
    cutO r7.1 x12 ((r7.1.length : Nat) : Int) >>= fun l14 =>
    appO 8 ([] : List Nat) l14 >>= fun l15 =>
    appO 8 l15 ([1] : List Nat) >>= fun l16 =>
    some (l13, l16, true)
def poly_Degree_L0 (p_f : List Nat) (x2 : Int) : Option (Out Int (Int ⊕ Unit)) :=
  bif decide (x2 ≥ (0 : Int)) then
    idx p_f x2 >>= fun x3 =>
    bif ((x3 : Nat) : Int) != (0 : Int) then
      some (.fin (.inl x2))
    else
      subI x2 (1 : Int) >>= fun x4 =>
      some (.go x4)
  else
    some (.fin (.inr ()))
def poly_Degree (p_f : List Nat) : Option Int :=
  subI ((p_f.length : Nat) : Int) (1 : Int) >>= fun x1 =>
  lpO (fun (st : Int) => poly_Degree_L0 p_f st) big x1 >>= fun r1 => sumB r1 (fun x => some x) fun _ =>
  some (-1)
def poly_Trim (p_f : List Nat) : Option (List Nat) :=
  poly_Degree p_f >>= fun r1 =>
  addI r1 (1 : Int) >>= fun x1 =>
  cutO p_f (0 : Int) x1 >>= fun l1 =>
  appO 8 ([] : List Nat) l1 >>= fun l2 =>
  some l2
def poly_DivMod_L1 (p_p : Nat) (r1 : (List Nat)) (x6 : Int) (r5 : Nat) (k1 : Nat) (l9 : List Nat) : Option (List Nat) :=
  r1[k1]? >>= fun x11 =>
  addI x6 ((k1 : Nat) : Int) >>= fun x12 =>
  idx l9 x12 >>= fun x13 =>
  field_Mul p_p r5 x11 >>= fun r7 =>
  field_Sub p_p x13 r7 >>= fun r8 =>
  some (l9.set x12.toNat r8) >>= fun l11 =>
  some l11
def poly_DivMod_L0 (p_p : Nat) (r1 : (List Nat)) (r2 : Nat × Int) (l2 : List Nat) (l3 : List Nat) : Option (Out ((List Nat) × (List Nat)) ((List Nat) × (List Nat))) :=
  bif decide (((l2.length : Nat) : Int) ≥ ((r1.length : Nat) : Int)) then
    subI ((l2.length : Nat) : Int) ((r1.length : Nat) : Int) >>= fun x6 =>
    subI ((l2.length : Nat) : Int) (1 : Int) >>= fun x7 =>
    idx l2 x7 >>= fun x8 =>
    field_Mul p_p x8 r2.1 >>= fun r5 =>
    idx l3 x6 >>= fun x9 =>
    some (l3.set x6.toNat r5) >>= fun l8 =>
    rgS (fun k1 (st : (List Nat)) => poly_DivMod_L1 p_p r1 x6 r5 k1 st) (r1.length - 0) 0 l2 >>= fun l10 =>
    poly_Trim l10 >>= fun r9 =>
    some (.go (r9, l8))
  else
    some (.fin (l2, l3))
def poly_DivMod (p_p : Nat) (p_a : List Nat) (p_b : List Nat) : Option ((List Nat) × (List Nat) × Int) :=
  poly_Trim p_b >>= fun r1 =>
  bif ((r1.length : Nat) : Int) == (0 : Int) then
    some (([] : List Nat), ([] : List Nat), ((8 : Nat) : Int))
  else
    subI ((r1.length : Nat) : Int) (1 : Int) >>= fun x1 =>
    idx r1 x1 >>= fun x2 =>
    field_Inverse p_p x2 >>= fun r2 =>
    poly_Trim p_a >>= fun r3 =>
    subI ((r3.length : Nat) : Int) ((r1.length : Nat) : Int) >>= fun x3 =>
    addI x3 (1 : Int) >>= fun x4 =>
    some (max (0 : Int) x4) >>= fun x5 =>
    mkO 8 x5 x5 (0 : Nat) >>= fun l1 =>
    lpO (fun (st : (List Nat) × (List Nat)) => poly_DivMod_L0 p_p r1 r2 st.1 st.2) big (r3, l1) >>= fun (l6, l7) =>
    poly_Trim l7 >>= fun r10 =>
    some (r10, l6, ((0 : Nat) : Int))
def poly_Eval_L0 (p_p : Nat) (p_f : List Nat) (p_x : Nat) (x2 : Nat) (x3 : Int) : Option (Out (Nat × Int) Nat) :=
  bif decide (x3 ≥ (0 : Int)) then
    field_Mul p_p x2 p_x >>= fun r2 =>
    idx p_f x3 >>= fun x6 =>
    field_Add p_p r2 x6 >>= fun r3 =>
    subI x3 (1 : Int) >>= fun x7 =>
    some (.go (r3, x7))
  else
    some (.fin x2)
def poly_Eval (p_p : Nat) (p_f : List Nat) (p_x : Nat) : Option Nat :=
  subI ((p_f.length : Nat) : Int) (1 : Int) >>= fun x1 =>
  lpO (fun (st : Nat × Int) => poly_Eval_L0 p_p p_f p_x st.1 st.2) big (0, x1) >>= fun x5 =>
  some x5
def reedsolomon_ErrorPositions_L0 (p_p : Nat) (p_f : List Nat) (p_pts : List T_api_Point) (k1 : Nat) (l1 : List Int) : Option (List Int) :=
  p_pts[k1]? >>= fun x2 =>
  poly_Eval p_p p_f x2.X >>= fun r2 =>
  bif ((r2 : Nat) : Int) != ((x2.Y : Nat) : Int) then
    appO 8 l1 ([((k1 : Nat) : Int)] : List Int) >>= fun l3 =>
    some l3
  else
    some l1
def reedsolomon_ErrorPositions (p_p : Nat) (p_f : List Nat) (p_pts : List T_api_Point) : Option (List Int) :=
  rgS (fun k1 (st : (List Int)) => reedsolomon_ErrorPositions_L0 p_p p_f p_pts k1 st) (p_pts.length - 0) 0 ([] : List Int) >>= fun l2 =>
  some l2
def reedsolomon_Decode (p_p : Nat) (p_pts : List T_api_Point) (p_deg : Int) (p_wrong : Int) : Option ((List Nat) × (List Int) × Int) :=
  reedsolomon_may p_pts p_deg p_wrong >>= fun r1 =>
  bif !r1 then
    some (([] : List Nat), ([] : List Int), ((1 : Nat) : Int))
  else
    reedsolomon_try p_p p_pts p_deg p_wrong >>= fun r2 =>
    bif !r2.2.2 then
      some (([] : List Nat), ([] : List Int), ((9 : Nat) : Int))
    else
      poly_DivMod p_p r2.1 r2.2.1 >>= fun r3 =>
      (
        bif decide (((r3.2.1.length : Nat) : Int) > (0 : Int)) then
          some true
        else
          poly_Degree r3.1 >>= fun r4 =>
          some (decide (r4 > p_deg))
      ) >>= fun x1 =>
      bif x1 then
        some (([] : List Nat), ([] : List Int), ((9 : Nat) : Int))
      else
        reedsolomon_ErrorPositions p_p r3.1 p_pts >>= fun r5 =>
        bif decide (((r5.length : Nat) : Int) > p_wrong) then
          some (([] : List Nat), ([] : List Int), ((9 : Nat) : Int))
        else
          some (r3.1, r5, ((0 : Nat) : Int))
def poly_Coefficient (p_f : List Nat) (p_i : Int) : Option Nat :=
  bif decide (p_i < (0 : Int)) then
    some 0
  else
    bif decide (p_i ≥ ((p_f.length : Nat) : Int)) then
      some 0
    else
      idx p_f p_i >>= fun x1 =>
      some x1
def reconstruct_Values_L2 (r6 : (List Nat) × (List Int) × Int) (k3 : Nat) (l13 : List (Int × Unit)) : Option (List (Int × Unit)) :=
  r6.2.1[k3]? >>= fun x8 =>
  addI x8 (1 : Int) >>= fun x9 =>
  some (mput l13 x9 ())
def reconstruct_Values_L1 (r1 : T_api_Scenario) (k1 : Nat) (x3 : List (List Nat)) (k2 : Nat) (l7 : List (List Nat)) (l8 : List (Int × Unit)) : Option ((List (List Nat)) × (List (Int × Unit))) :=
  x3[k2]? >>= fun x5 =>
  reconstruct_points x5 >>= fun r5 =>
  reedsolomon_Decode r1.S.P r5 r1.S.T r1.S.T >>= fun r6 =>
  l7[k1]? >>= fun x6 =>
  poly_Coefficient r6.1 ((0 : Nat) : Int) >>= fun r7 =>
  appO 8 x6 ([r7] : List Nat) >>= fun l11 =>
  some (l7.set k1 l11) >>= fun l12 =>
  rgS (fun k3 (st : (List (Int × Unit))) => reconstruct_Values_L2 r6 k3 st) (r6.2.1.length - 0) 0 l8 >>= fun l14 =>
  some (l12, l14)
def reconstruct_Values_L3 (k1 : Nat) (l10 : List (Int × Unit)) (k4 : Nat) (l15 : List (List Int)) : Option (List (List Int)) :=
  addI ((k4 : Nat) : Int) (1 : Int) >>= fun x11 =>
  bif (mgetO l10 x11).isSome then
    l15[k1]? >>= fun x12 =>
    appO 8 x12 ([x11] : List Int) >>= fun l17 =>
    some (l15.set k1 l17) >>= fun l18 =>
    some l18
  else
    some l15
def reconstruct_Values_L0 (r1 : T_api_Scenario) (r2 : (List (List (List Nat))) × Int × (List (List T_api_Event))) (k1 : Nat) (l3 : List (List Nat)) (l4 : List (List Int)) : Option ((List (List Nat)) × (List (List Int))) :=
  r2.1[k1]? >>= fun x3 =>
  rgS (fun k2 (st : (List (List Nat)) × (List (Int × Unit))) => reconstruct_Values_L1 r1 k1 x3 k2 st.1 st.2) (x3.length - 0) 0 (l3, ([] : List (Int × Unit))) >>= fun (l9, l10) =>
  ckN (max 0 (r1.S.N).toNat) >>= fun u1 =>
  rgS (fun k4 (st : (List (List Int))) => reconstruct_Values_L3 k1 l10 k4 st) ((max 0 (r1.S.N).toNat) - 0) 0 l4 >>= fun l16 =>
  some (l9, l16)
def reconstruct_Values (p_n : T_network_Net) (p_shares : List (List Nat)) : Option ((List (List Nat)) × (List (List Int)) × Int × (List (List T_api_Event))) :=
  network_Net_Scenario p_n >>= fun r1 =>
  mkO 24 r1.S.N r1.S.N ([] : List Nat) >>= fun l1 =>
  mkO 24 r1.S.N r1.S.N ([] : List Int) >>= fun l2 =>
  p_shares[0]? >>= fun x1 =>
  bif ((x1.length : Nat) : Int) == (0 : Int) then
    some (l1, l2, p_n.zround, p_n.zviews)
  else
    reconstruct_said p_n p_shares ((x1.length : Nat) : Int) >>= fun r2 =>
    rgS (fun k1 (st : (List (List Nat)) × (List (List Int))) => reconstruct_Values_L0 r1 r2 k1 st.1 st.2) (r2.1.length - 0) 0 (l1, l2) >>= fun (l5, l6) =>
    some (l5, l6, r2.2.1, r2.2.2)
def privityref14_Net_Scenario (p_n : T_privityref14_Net) : Option T_api_Scenario :=
  some p_n.zw
def privityref01_Mul_L0 (p_p : Nat) (x1 : Nat) (x2 : Nat) (x3 : Nat) : Option (Out (Nat × Nat × Nat) Nat) :=
  bif decide (((x2 : Nat) : Int) > (0 : Int)) then
    remU x2 2 >>= fun x6 =>
    bif ((x6 : Nat) : Int) == (1 : Int) then
      some (addU x3 x1) >>= fun x7 =>
      remU x7 p_p >>= fun x8 =>
      some (addU x1 x1) >>= fun x9 =>
      remU x9 p_p >>= fun x10 =>
      divU x2 2 >>= fun x11 =>
      some (.go (x10, x11, x8))
    else
      some (addU x1 x1) >>= fun x12 =>
      remU x12 p_p >>= fun x13 =>
      divU x2 2 >>= fun x14 =>
      some (.go (x13, x14, x3))
  else
    some (.fin x3)
def privityref01_Mul (p_p : Nat) (p_a : Nat) (p_b : Nat) : Option Nat :=
  lpO (fun (st : Nat × Nat × Nat) => privityref01_Mul_L0 p_p st.1 st.2.1 st.2.2) big (p_a, p_b, 0) >>= fun x5 =>
  some x5
def privityref01_Add (p_p : Nat) (p_a : Nat) (p_b : Nat) : Option Nat :=
  some (addU p_a p_b) >>= fun x1 =>
  remU x1 p_p >>= fun x2 =>
  some x2
def privityref04_Eval_L0 (p_p : Nat) (p_f : List Nat) (p_x : Nat) (k1 : Nat) (x1 : Nat) (x2 : Nat) : Option (Nat × Nat) :=
  p_f[k1]? >>= fun x6 =>
  privityref01_Mul p_p x6 x2 >>= fun r2 =>
  privityref01_Add p_p x1 r2 >>= fun r3 =>
  privityref01_Mul p_p x2 p_x >>= fun r4 =>
  some (r3, r4)
def privityref04_Eval (p_p : Nat) (p_f : List Nat) (p_x : Nat) : Option Nat :=
  rgS (fun k1 (st : Nat × Nat) => privityref04_Eval_L0 p_p p_f p_x k1 st.1 st.2) (p_f.length - 0) 0 (0, 1) >>= fun (x4, x5) =>
  some x4
def privityref20_lists_L1 (p_l : List (List Nat)) (k1 : Nat) (k2 : Nat) (l3 : List (List Nat)) : Option (List (List Nat)) :=
  p_l[k1]? >>= fun x3 =>
  appO 24 l3 ([x3] : List (List Nat)) >>= fun l5 =>
  some l5
def privityref20_lists_L0 (p_l : List (List Nat)) (k1 : Nat) (l1 : List (List (List Nat))) : Option (List (List (List Nat))) :=
  rgS (fun k2 (st : (List (List Nat))) => privityref20_lists_L1 p_l k1 k2 st) (p_l.length - 0) 0 ([] : List (List Nat)) >>= fun l4 =>
  appO 24 l1 ([l4] : List (List (List Nat))) >>= fun l6 =>
  some l6
def privityref20_lists (p_l : List (List Nat)) : Option (List (List (List Nat))) :=
  rgS (fun k1 (st : (List (List (List Nat)))) => privityref20_lists_L0 p_l k1 st) (p_l.length - 0) 0 ([] : List (List (List Nat))) >>= fun l2 =>
  some l2
def privityref13_bad_L0 (p_w : T_api_Scenario) (p_i : Int) (k1 : Nat) : Option (Out Unit Bool) :=
  p_w.Corrupt[k1]? >>= fun x1 =>
  bif x1 == p_i then
    some (.fin true)
  else
    some (.go ())
def privityref13_bad (p_w : T_api_Scenario) (p_i : Int) : Option Bool :=
  rgO (fun k1 (st : Unit) => privityref13_bad_L0 p_w p_i k1) (p_w.Corrupt.length - 0) 0 () >>= fun r1 => outB r1 (fun x => some x) fun _ =>
  some false
def privityref13_heard (p_out : List (List (List Nat))) (p_x : T_api_Deviation) : Option (List Nat) :=
  bif decide (p_x.Of < (1 : Int)) then
    some ([] : List Nat)
  else
    subI p_x.Of (1 : Int) >>= fun x1 =>
    idx p_out x1 >>= fun x2 =>
    subI p_x.From (1 : Int) >>= fun x3 =>
    idx x2 x3 >>= fun x4 =>
    some x4
def privityref13_word (p_l : List Nat) (p_i : Int) : Option Nat :=
  bif decide (p_i < (0 : Int)) then
    some 0
  else
    bif decide (p_i ≥ ((p_l.length : Nat) : Int)) then
      some 0
    else
      idx p_l p_i >>= fun x1 =>
      some x1
def privityref13_told (p_w : T_api_Scenario) (p_x : T_api_Deviation) (p_l : List Nat) (p_heard : List Nat) : Option (List Nat) :=
  bif p_x.Kind == (4 : Int) then
    some ([] : List Nat)
  else
    (
      bif decide (p_x.At < (0 : Int)) then
        some true
      else
        some (decide (p_x.At ≥ ((p_l.length : Nat) : Int)))
    ) >>= fun x1 =>
    bif x1 then
      some p_l
    else
      appO 8 ([] : List Nat) p_l >>= fun l1 =>
      remU p_x.K p_w.S.P >>= fun x2 =>
      bif p_x.Kind == (1 : Int) then
        idx l1 p_x.At >>= fun x3 =>
        some (l1.set p_x.At.toNat x2) >>= fun l2 =>
        some l2
      else
        bif p_x.Kind == (2 : Int) then
          idx l1 p_x.At >>= fun x4 =>
          privityref01_Add p_w.S.P x4 x2 >>= fun r1 =>
          some (l1.set p_x.At.toNat r1) >>= fun l3 =>
          some l3
        else
          bif p_x.Kind == (3 : Int) then
            privityref13_bad p_w p_x.Of >>= fun r2 =>
            bif !r2 then
              idx l1 p_x.At >>= fun x5 =>
              privityref13_word p_heard p_x.SrcIndex >>= fun r3 =>
              remU r3 p_w.S.P >>= fun x6 =>
              privityref01_Mul p_w.S.P x2 x6 >>= fun r4 =>
              privityref01_Add p_w.S.P x5 r4 >>= fun r5 =>
              some (l1.set p_x.At.toNat r5) >>= fun l4 =>
              some l4
            else
              some l1
          else
            some l1
def privityref13_ApplyToMessages_L0 (p_out : List (List (List Nat))) (k1 : Nat) (l1 : List (List (List Nat))) : Option (List (List (List Nat))) :=
  p_out[k1]? >>= fun x2 =>
  appO 24 ([] : List (List Nat)) x2 >>= fun l3 =>
  appO 24 l1 ([l3] : List (List (List Nat))) >>= fun l4 =>
  some l4
def privityref13_ApplyToMessages_L2 (p_w : T_api_Scenario) (p_out : List (List (List Nat))) (x4 : T_api_Deviation) (k3 : Nat) (l7 : List (List (List Nat))) : Option (List (List (List Nat))) :=
  (
    bif ((k3 : Nat) : Int) != x4.From then
      bif x4.To == (0 : Int) then
        some true
      else
        some (x4.To == ((k3 : Nat) : Int))
    else
      some false
  ) >>= fun x7 =>
  bif x7 then
    subI x4.From (1 : Int) >>= fun x8 =>
    idx l7 x8 >>= fun x9 =>
    subI ((k3 : Nat) : Int) (1 : Int) >>= fun x10 =>
    idx x9 x10 >>= fun x11 =>
    privityref13_heard p_out x4 >>= fun r5 =>
    privityref13_told p_w x4 x11 r5 >>= fun r6 =>
    some (x9.set x10.toNat r6) >>= fun l9 =>
    some (l7.set x8.toNat l9) >>= fun l10 =>
    some l10
  else
    some l7
def privityref13_ApplyToMessages_L1 (p_w : T_api_Scenario) (p_round : Int) (p_out : List (List (List Nat))) (k2 : Nat) (l5 : List (List (List Nat))) : Option (List (List (List Nat))) :=
  p_w.Deviations[k2]? >>= fun x4 =>
  (
    bif x4.Round != p_round then
      some true
    else
      privityref13_bad p_w x4.From >>= fun r3 =>
      some (!r3)
  ) >>= fun x5 =>
  bif x5 then
    some l5
  else
    ckN (max 1 (p_w.S.N + 1).toNat) >>= fun u1 =>
    rgS (fun k3 (st : (List (List (List Nat)))) => privityref13_ApplyToMessages_L2 p_w p_out x4 k3 st) ((max 1 (p_w.S.N + 1).toNat) - 1) 1 l5 >>= fun l8 =>
    some l8
def privityref13_ApplyToMessages (p_w : T_api_Scenario) (p_round : Int) (p_out : List (List (List Nat))) : Option (List (List (List Nat))) :=
  rgS (fun k1 (st : (List (List (List Nat)))) => privityref13_ApplyToMessages_L0 p_out k1 st) (p_out.length - 0) 0 ([] : List (List (List Nat))) >>= fun l2 =>
  rgS (fun k2 (st : (List (List (List Nat)))) => privityref13_ApplyToMessages_L1 p_w p_round p_out k2 st) (p_w.Deviations.length - 0) 0 l2 >>= fun l6 =>
  some l6
def privityref14_Net_hear (p_n : T_privityref14_Net) (p_j : Int) (p_i : Int) (p_l : List Nat) : Option (List (List T_api_Event)) :=
  (
    bif p_i != p_j then
      some (decide (((p_l.length : Nat) : Int) > (0 : Int)))
    else
      some false
  ) >>= fun x1 =>
  bif x1 then
    idx p_n.zviews p_j >>= fun x2 =>
    addI p_i (1 : Int) >>= fun x3 =>
    appO 40 x2 ([(⟨p_n.zround, x3, p_l⟩ : T_api_Event)] : List T_api_Event) >>= fun l1 =>
    some (p_n.zviews.set p_j.toNat l1) >>= fun l2 =>
    some l2
  else
    some p_n.zviews
def privityref14_Net_Send_L1 (p_n : T_privityref14_Net) (r1 : (List (List (List Nat)))) (k1 : Nat) (k2 : Nat) (l6 : List (List T_api_Event)) (l7 : List (List (List Nat))) : Option ((List (List T_api_Event)) × (List (List (List Nat)))) :=
  r1[k2]? >>= fun x3 =>
  x3[k1]? >>= fun x4 =>
  appO 8 ([] : List Nat) x4 >>= fun l10 =>
  l7[k1]? >>= fun x5 =>
  appO 24 x5 ([l10] : List (List Nat)) >>= fun l11 =>
  some (l7.set k1 l11) >>= fun l12 =>
  privityref14_Net_hear (⟨p_n.zw, p_n.zround, l6, p_n.ztapes⟩ : T_privityref14_Net) ((k1 : Nat) : Int) ((k2 : Nat) : Int) l10 >>= fun r4 =>
  some (r4, l12)
def privityref14_Net_Send_L0 (p_n : T_privityref14_Net) (r1 : (List (List (List Nat)))) (k1 : Nat) (l2 : List (List T_api_Event)) (l3 : List (List (List Nat))) : Option ((List (List T_api_Event)) × (List (List (List Nat)))) :=
  rgS (fun k2 (st : (List (List T_api_Event)) × (List (List (List Nat)))) => privityref14_Net_Send_L1 p_n r1 k1 k2 st.1 st.2) ((max 0 (p_n.zw.S.N).toNat) - 0) 0 (l2, l3) >>= fun (l8, l9) =>
  some (l8, l9)
def privityref14_Net_Send (p_n : T_privityref14_Net) (p_out : List (List (List Nat))) : Option ((List (List (List Nat))) × Int × (List (List T_api_Event))) :=
  privityref13_ApplyToMessages p_n.zw p_n.zround p_out >>= fun r1 =>
  mkO 24 p_n.zw.S.N p_n.zw.S.N ([] : List (List Nat)) >>= fun l1 =>
  ckN (max 0 (p_n.zw.S.N).toNat) >>= fun u1 =>
  rgS (fun k1 (st : (List (List T_api_Event)) × (List (List (List Nat)))) => privityref14_Net_Send_L0 p_n r1 k1 st.1 st.2) ((max 0 (p_n.zw.S.N).toNat) - 0) 0 (p_n.zviews, l1) >>= fun (l4, l5) =>
  addI p_n.zround (1 : Int) >>= fun x6 =>
  some (l5, x6, l4)
def privityref14_Resize_L0 (p_l : List Nat) (p_n : Int) (l2 : List Nat) (x1 : Int) : Option (Out ((List Nat) × Int) (List Nat)) :=
  (
    bif decide (x1 < p_n) then
      some (decide (x1 < ((p_l.length : Nat) : Int)))
    else
      some false
  ) >>= fun x2 =>
  bif x2 then
    idx p_l x1 >>= fun x3 =>
    idx l2 x1 >>= fun x4 =>
    some (l2.set x1.toNat x3) >>= fun l5 =>
    addI x1 (1 : Int) >>= fun x5 =>
    some (.go (l5, x5))
  else
    some (.fin l2)
def privityref14_Resize (p_l : List Nat) (p_n : Int) : Option (List Nat) :=
  mkO 8 p_n p_n (0 : Nat) >>= fun l1 =>
  lpO (fun (st : (List Nat) × Int) => privityref14_Resize_L0 p_l p_n st.1 st.2) big (l1, ((0 : Nat) : Int)) >>= fun l4 =>
  some l4
def privityref08_May_L1 (p_pts : List T_api_Point) (k1 : Nat) (k2 : Nat) : Option (Out Unit Bool) :=
  p_pts[k1]? >>= fun x5 =>
  p_pts[k2]? >>= fun x6 =>
  bif ((x5.X : Nat) : Int) == ((x6.X : Nat) : Int) then
    some (.fin false)
  else
    some (.go ())
def privityref08_May_L0 (p_pts : List T_api_Point) (k1 : Nat) : Option (Out Unit Bool) :=
  ckN k1 >>= fun u1 =>
  rgO (fun k2 (st : Unit) => privityref08_May_L1 p_pts k1 k2) (k1 - 0) 0 () >>= fun r2 => outB r2 (fun x => some (.fin x)) fun _ =>
  some (.go ())
def privityref08_May (p_pts : List T_api_Point) (p_deg : Int) (p_wrong : Int) : Option Bool :=
  (
    bif decide (p_deg < (0 : Int)) then
      some true
    else
      bif decide (p_wrong < (0 : Int)) then
        some true
      else
        bif decide (p_deg ≥ ((p_pts.length : Nat) : Int)) then
          some true
        else
          bif decide (p_wrong ≥ ((p_pts.length : Nat) : Int)) then
            some true
          else
            addI p_deg (1 : Int) >>= fun x2 =>
            mulI (2 : Int) p_wrong >>= fun x3 =>
            addI x2 x3 >>= fun x4 =>
            some (decide (x4 > ((p_pts.length : Nat) : Int)))
  ) >>= fun x1 =>
  bif x1 then
    some false
  else
    rgO (fun k1 (st : Unit) => privityref08_May_L0 p_pts k1) (p_pts.length - 0) 0 () >>= fun r1 => outB r1 (fun x => some x) fun _ =>
    some true
def privityref05_Places_L0 (p_pts : List T_api_Point) (k1 : Nat) (l1 : List Nat) : Option (List Nat) :=
  p_pts[k1]? >>= fun x2 =>
  appO 8 l1 ([x2.X] : List Nat) >>= fun l3 =>
  some l3
def privityref05_Places (p_pts : List T_api_Point) : Option (List Nat) :=
  rgS (fun k1 (st : (List Nat)) => privityref05_Places_L0 p_pts k1 st) (p_pts.length - 0) 0 ([] : List Nat) >>= fun l2 =>
  some l2
def privityref05_Unlike_L1 (p_xs : List Nat) (k1 : Nat) (k2 : Nat) : Option (Out Unit Bool) :=
  p_xs[k1]? >>= fun x1 =>
  p_xs[k2]? >>= fun x2 =>
  bif ((x1 : Nat) : Int) == ((x2 : Nat) : Int) then
    some (.fin false)
  else
    some (.go ())
def privityref05_Unlike_L0 (p_xs : List Nat) (k1 : Nat) : Option (Out Unit Bool) :=
  ckN k1 >>= fun u1 =>
  rgO (fun k2 (st : Unit) => privityref05_Unlike_L1 p_xs k1 k2) (k1 - 0) 0 () >>= fun r2 => outB r2 (fun x => some (.fin x)) fun _ =>
  some (.go ())
def privityref05_Unlike (p_xs : List Nat) : Option Bool :=
  rgO (fun k1 (st : Unit) => privityref05_Unlike_L0 p_xs k1) (p_xs.length - 0) 0 () >>= fun r1 => outB r1 (fun x => some x) fun _ =>
  some true
def privityref01_Sub (p_p : Nat) (p_a : Nat) (p_b : Nat) : Option Nat :=
  some (addU p_a p_p) >>= fun x1 =>
  some (subU x1 p_b) >>= fun x2 =>
  remU x2 p_p >>= fun x3 =>
  some x3
def privityref01_Pow_L0 (p_p : Nat) (x1 : Nat) (x2 : Nat) (x3 : Nat) : Option (Out (Nat × Nat × Nat) Nat) :=
  bif decide (((x2 : Nat) : Int) > (0 : Int)) then
    remU x2 2 >>= fun x6 =>
    bif ((x6 : Nat) : Int) == (1 : Int) then
      privityref01_Mul p_p x3 x1 >>= fun r2 =>
      privityref01_Mul p_p x1 x1 >>= fun r3 =>
      divU x2 2 >>= fun x7 =>
      some (.go (r3, x7, r2))
    else
      privityref01_Mul p_p x1 x1 >>= fun r4 =>
      divU x2 2 >>= fun x8 =>
      some (.go (r4, x8, x3))
  else
    some (.fin x3)
def privityref01_Pow (p_p : Nat) (p_a : Nat) (p_n : Nat) : Option Nat :=
  lpO (fun (st : Nat × Nat × Nat) => privityref01_Pow_L0 p_p st.1 st.2.1 st.2.2) big (p_a, p_n, 1) >>= fun x5 =>
  some x5
def privityref01_Inverse (p_p : Nat) (p_a : Nat) : Option (Nat × Int) :=
  bif ((p_a : Nat) : Int) == (0 : Int) then
    some (0, ((8 : Nat) : Int))
  else
    some (subU p_p 2) >>= fun x1 =>
    privityref01_Pow p_p p_a x1 >>= fun r1 =>
    some (r1, ((0 : Nat) : Int))
def privityref01_Neg (p_p : Nat) (p_a : Nat) : Option Nat :=
  some (subU p_p p_a) >>= fun x1 =>
  remU x1 p_p >>= fun x2 =>
  some x2
def privityref04_Trim_L0 (p_f : List Nat) (x1 : Int) : Option (Out Int Int) :=
  bif decide (x1 > (0 : Int)) then
    subI x1 (1 : Int) >>= fun x4 =>
    idx p_f x4 >>= fun x5 =>
    bif ((x5 : Nat) : Int) == (0 : Int) then
      some (.go x4)
    else
      some (.fin x1)
  else
    some (.fin x1)
def privityref04_Trim (p_f : List Nat) : Option (List Nat) :=
  lpO (fun (st : Int) => privityref04_Trim_L0 p_f st) big ((p_f.length : Nat) : Int) >>= fun x3 =>
  cutO p_f (0 : Int) x3 >>= fun l1 =>
  appO 8 ([] : List Nat) l1 >>= fun l2 =>
  some l2
def privityref04_Mul_L1 (p_p : Nat) (p_a : List Nat) (p_b : List Nat) (k1 : Nat) (k2 : Nat) (l4 : List Nat) : Option (List Nat) :=
  addI ((k1 : Nat) : Int) ((k2 : Nat) : Int) >>= fun x6 =>
  idx l4 x6 >>= fun x7 =>
  p_a[k1]? >>= fun x8 =>
  p_b[k2]? >>= fun x9 =>
  privityref01_Mul p_p x8 x9 >>= fun r3 =>
  privityref01_Add p_p x7 r3 >>= fun r4 =>
  some (l4.set x6.toNat r4) >>= fun l6 =>
  some l6
def privityref04_Mul_L0 (p_p : Nat) (p_a : List Nat) (p_b : List Nat) (k1 : Nat) (l2 : List Nat) : Option (List Nat) :=
  rgS (fun k2 (st : (List Nat)) => privityref04_Mul_L1 p_p p_a p_b k1 k2 st) (p_b.length - 0) 0 l2 >>= fun l5 =>
  some l5
def privityref04_Mul (p_p : Nat) (p_a : List Nat) (p_b : List Nat) : Option (List Nat) :=
  (
    bif ((p_a.length : Nat) : Int) == (0 : Int) then
      some true
    else
      some (((p_b.length : Nat) : Int) == (0 : Int))
  ) >>= fun x1 =>
  bif x1 then
    some ([] : List Nat)
  else
    addI ((p_a.length : Nat) : Int) ((p_b.length : Nat) : Int) >>= fun x2 =>
    subI x2 (1 : Int) >>= fun x3 =>
    mkO 8 x3 x3 (0 : Nat) >>= fun l1 =>
    rgS (fun k1 (st : (List Nat)) => privityref04_Mul_L0 p_p p_a p_b k1 st) (p_a.length - 0) 0 l1 >>= fun l3 =>
    privityref04_Trim l3 >>= fun r5 =>
    some r5
def privityref05_base_L0 (p_p : Nat) (p_xs : List Nat) (p_i : Int) (k1 : Nat) (l1 : List Nat) : Option (List Nat) :=
  bif ((k1 : Nat) : Int) != p_i then
    idx p_xs p_i >>= fun x2 =>
    p_xs[k1]? >>= fun x3 =>
    privityref01_Sub p_p x2 x3 >>= fun r2 =>
    privityref01_Inverse p_p r2 >>= fun r3 =>
    privityref01_Neg p_p x3 >>= fun r4 =>
    privityref01_Mul p_p r4 r3.1 >>= fun r5 =>
    privityref04_Mul p_p l1 ([r5, r3.1] : List Nat) >>= fun r6 =>
    some r6
  else
    some l1
def privityref05_base (p_p : Nat) (p_xs : List Nat) (p_i : Int) : Option (List Nat) :=
  rgS (fun k1 (st : (List Nat)) => privityref05_base_L0 p_p p_xs p_i k1 st) (p_xs.length - 0) 0 ([1] : List Nat) >>= fun l2 =>
  some l2
def privityref04_Scale_L0 (p_p : Nat) (p_k : Nat) (p_a : List Nat) (k1 : Nat) (l1 : List Nat) : Option (List Nat) :=
  p_a[k1]? >>= fun x2 =>
  privityref01_Mul p_p p_k x2 >>= fun r2 =>
  appO 8 l1 ([r2] : List Nat) >>= fun l3 =>
  some l3
def privityref04_Scale (p_p : Nat) (p_k : Nat) (p_a : List Nat) : Option (List Nat) :=
  rgS (fun k1 (st : (List Nat)) => privityref04_Scale_L0 p_p p_k p_a k1 st) (p_a.length - 0) 0 ([] : List Nat) >>= fun l2 =>
  privityref04_Trim l2 >>= fun r3 =>
  some r3
def privityref04_Coefficient (p_f : List Nat) (p_i : Int) : Option Nat :=
  bif decide (p_i < (0 : Int)) then
    some 0
  else
    bif decide (p_i ≥ ((p_f.length : Nat) : Int)) then
      some 0
    else
      idx p_f p_i >>= fun x1 =>
      some x1
def privityref04_Add_L0 (p_p : Nat) (p_a : List Nat) (p_b : List Nat) (l1 : List Nat) (x1 : Int) : Option (Out ((List Nat) × Int) (List Nat)) :=
  (
    bif decide (x1 < ((p_a.length : Nat) : Int)) then
      some true
    else
      some (decide (x1 < ((p_b.length : Nat) : Int)))
  ) >>= fun x2 =>
  bif x2 then
    privityref04_Coefficient p_a x1 >>= fun r2 =>
    privityref04_Coefficient p_b x1 >>= fun r3 =>
    privityref01_Add p_p r2 r3 >>= fun r4 =>
    appO 8 l1 ([r4] : List Nat) >>= fun l4 =>
    addI x1 (1 : Int) >>= fun x3 =>
    some (.go (l4, x3))
  else
    some (.fin l1)
def privityref04_Add (p_p : Nat) (p_a : List Nat) (p_b : List Nat) : Option (List Nat) :=
  lpO (fun (st : (List Nat) × Int) => privityref04_Add_L0 p_p p_a p_b st.1 st.2) big (([] : List Nat), ((0 : Nat) : Int)) >>= fun l3 =>
  privityref04_Trim l3 >>= fun r5 =>
  some r5
def privityref05_Polynomial_L0 (p_p : Nat) (p_pts : List T_api_Point) (r1 : (List Nat)) (k1 : Nat) (l1 : List Nat) : Option (List Nat) :=
  p_pts[k1]? >>= fun x2 =>
  privityref05_base p_p r1 ((k1 : Nat) : Int) >>= fun r4 =>
  privityref04_Scale p_p x2.Y r4 >>= fun r5 =>
  privityref04_Add p_p l1 r5 >>= fun r6 =>
  some r6
def privityref05_Polynomial (p_p : Nat) (p_pts : List T_api_Point) : Option ((List Nat) × Int) :=
  privityref05_Places p_pts >>= fun r1 =>
  privityref05_Unlike r1 >>= fun r2 =>
  bif !r2 then
    some (([] : List Nat), ((1 : Nat) : Int))
  else
    rgS (fun k1 (st : (List Nat)) => privityref05_Polynomial_L0 p_p p_pts r1 k1 st) (p_pts.length - 0) 0 ([] : List Nat) >>= fun l2 =>
    some (l2, ((0 : Nat) : Int))
def privityref08_ErrorPositions_L0 (p_p : Nat) (p_f : List Nat) (p_pts : List T_api_Point) (k1 : Nat) (l1 : List Int) : Option (List Int) :=
  p_pts[k1]? >>= fun x2 =>
  privityref04_Eval p_p p_f x2.X >>= fun r2 =>
  bif ((r2 : Nat) : Int) != ((x2.Y : Nat) : Int) then
    appO 8 l1 ([((k1 : Nat) : Int)] : List Int) >>= fun l3 =>
    some l3
  else
    some l1
def privityref08_ErrorPositions (p_p : Nat) (p_f : List Nat) (p_pts : List T_api_Point) : Option (List Int) :=
  rgS (fun k1 (st : (List Int)) => privityref08_ErrorPositions_L0 p_p p_f p_pts k1 st) (p_pts.length - 0) 0 ([] : List Int) >>= fun l2 =>
  some l2
def privityref08_find_L0 (p_p : Nat) (p_pts : List T_api_Point) (p_taken : List T_api_Point) (p_more : Int) (p_wrong : Int) (self_ : Nat → List T_api_Point → List T_api_Point → Int → Int → Int → Option ((List Nat) × Bool)) (x1 : Int) : Option (Out Int (((List Nat) × Bool) ⊕ Unit)) :=
  bif decide (x1 < ((p_pts.length : Nat) : Int)) then
    appO 16 ([] : List T_api_Point) p_taken >>= fun l1 =>
    idx p_pts x1 >>= fun x2 =>
    appO 16 l1 ([x2] : List T_api_Point) >>= fun l2 =>
    addI x1 (1 : Int) >>= fun x3 =>
    subI p_more (1 : Int) >>= fun x4 =>
    self_ p_p p_pts l2 x3 x4 p_wrong >>= fun r4 =>
    bif r4.2 then
      some (.fin (.inl (r4.1, true)))
    else
      some (.go x3)
  else
    some (.fin (.inr ()))
def privityref08_find_B (self_ : Nat → List T_api_Point → List T_api_Point → Int → Int → Int → Option ((List Nat) × Bool)) (p_p : Nat) (p_pts : List T_api_Point) (p_taken : List T_api_Point) (p_from : Int) (p_more : Int) (p_wrong : Int) : Option ((List Nat) × Bool) :=
  bif p_more == (0 : Int) then
    privityref05_Polynomial p_p p_taken >>= fun r1 =>
    privityref08_ErrorPositions p_p r1.1 p_pts >>= fun r2 =>
    some (r1.1, decide (((r2.length : Nat) : Int) ≤ p_wrong))
  else
    lpO (fun (st : Int) => privityref08_find_L0 p_p p_pts p_taken p_more p_wrong self_ st) big p_from >>= fun r3 => sumB r3 (fun x => some x) fun _ =>
    some (([] : List Nat), false)
def privityref08_find : Nat → Nat → List T_api_Point → List T_api_Point → Int → Int → Int → Option ((List Nat) × Bool)
  | 0, _, _, _, _, _, _ => none
  | k + 1, p_p, p_pts, p_taken, p_from, p_more, p_wrong => privityref08_find_B (privityref08_find k) p_p p_pts p_taken p_from p_more p_wrong
def privityref08_Decode (p_p : Nat) (p_pts : List T_api_Point) (p_deg : Int) (p_wrong : Int) : Option ((List Nat) × (List Int) × Int) :=
  privityref08_May p_pts p_deg p_wrong >>= fun r1 =>
  bif !r1 then
    some (([] : List Nat), ([] : List Int), ((1 : Nat) : Int))
  else
    addI p_deg (1 : Int) >>= fun x1 =>
    privityref08_find 64 p_p p_pts ([] : List T_api_Point) ((0 : Nat) : Int) x1 p_wrong >>= fun r2 =>
    bif !r2.2 then
      some (([] : List Nat), ([] : List Int), ((9 : Nat) : Int))
    else
      privityref08_ErrorPositions p_p r2.1 p_pts >>= fun r3 =>
      some (r2.1, r3, ((0 : Nat) : Int))
def privityref20_Decoded_L0 (p_heard : List (List Nat)) (p_k : Int) (k1 : Nat) (l1 : List T_api_Point) : Option (List T_api_Point) :=
  addI ((k1 : Nat) : Int) (1 : Int) >>= fun x2 =>
  some (toU x2) >>= fun x3 =>
  p_heard[k1]? >>= fun x4 =>
  addI p_k (1 : Int) >>= fun x5 =>
  privityref14_Resize x4 x5 >>= fun r2 =>
  idx r2 p_k >>= fun x6 =>
  appO 16 l1 ([(⟨x3, x6⟩ : T_api_Point)] : List T_api_Point) >>= fun l3 =>
  some l3
def privityref20_Decoded (p_s : T_api_Params) (p_heard : List (List Nat)) (p_k : Int) : Option ((List Nat) × (List Int) × Bool) :=
  ckN (max 0 (p_s.N).toNat) >>= fun u1 =>
  rgS (fun k1 (st : (List T_api_Point)) => privityref20_Decoded_L0 p_heard p_k k1 st) ((max 0 (p_s.N).toNat) - 0) 0 ([] : List T_api_Point) >>= fun l2 =>
  privityref08_Decode p_s.P l2 p_s.T p_s.T >>= fun r3 =>
  some (r3.1, r3.2.1, r3.2.2 == (0 : Int))
def network_Net_View (p_n : T_network_Net) (p_i : Int) : Option (List T_api_Event) :=
  subI p_i (1 : Int) >>= fun x1 =>
  idx p_n.zviews x1 >>= fun x2 =>
  appO 40 ([] : List T_api_Event) x2 >>= fun l1 =>
  some l1
def privityref14_Net_View (p_n : T_privityref14_Net) (p_i : Int) : Option (List T_api_Event) :=
  subI p_i (1 : Int) >>= fun x1 =>
  idx p_n.zviews x1 >>= fun x2 =>
  appO 40 ([] : List T_api_Event) x2 >>= fun l1 =>
  some l1
def network_Net_Rounds (p_n : T_network_Net) : Option Int :=
  some p_n.zround
def triplestore_New (p_l : List T_api_Triple) : Option T_api_Ledger :=
  some (⟨p_l, ((0 : Nat) : Int)⟩ : T_api_Ledger)
def privitylaw25_three  : Option T_api_Ledger :=
  mkO 72 (3 : Int) (3 : Int) ((⟨([] : List (List Nat)), ([] : List (List Nat)), ([] : List (List Nat))⟩ : T_api_Triple) : T_api_Triple) >>= fun l1 =>
  triplestore_New l1 >>= fun r1 =>
  some r1
def triplestore_book_left (p_b : T_triplestore_book) : Option Int :=
  bif decide (p_b.Used < (0 : Int)) then
    some (-1)
  else
    subI ((p_b.Made.length : Nat) : Int) p_b.Used >>= fun x1 =>
    some x1
def triplestore_Take (p_l : T_api_Ledger) (p_m : Int) : Option ((List T_api_Triple) × T_api_Ledger × Int) :=
  (
    bif decide (p_m < (0 : Int)) then
      some true
    else
      triplestore_book_left (⟨p_l.Made, p_l.Used⟩ : T_triplestore_book) >>= fun r1 =>
      some (decide (p_m > r1))
  ) >>= fun x1 =>
  bif x1 then
    some (([] : List T_api_Triple), p_l, ((12 : Nat) : Int))
  else
    addI p_l.Used p_m >>= fun x2 =>
    cutO p_l.Made p_l.Used x2 >>= fun l1 =>
    some (l1, (⟨p_l.Made, x2⟩ : T_api_Ledger), ((0 : Nat) : Int))
def privityref09_Shares_L0 (p_p : Nat) (p_q : List Nat) (k1 : Nat) (l1 : List Nat) : Option (List Nat) :=
  some (toU ((k1 : Nat) : Int)) >>= fun x2 =>
  privityref04_Eval p_p p_q x2 >>= fun r2 =>
  appO 8 l1 ([r2] : List Nat) >>= fun l3 =>
  some l3
def privityref09_Shares (p_p : Nat) (p_n : Int) (p_q : List Nat) : Option (List Nat) :=
  ckN (max 1 (p_n + 1).toNat) >>= fun u1 =>
  rgS (fun k1 (st : (List Nat)) => privityref09_Shares_L0 p_p p_q k1 st) ((max 1 (p_n + 1).toNat) - 1) 1 ([] : List Nat) >>= fun l2 =>
  some l2
def privityref25_Row_L0 (p_s : T_api_Params) (r1 : (List Nat)) (k1 : Nat) (l1 : List (List Nat)) : Option (List (List Nat)) :=
  addI p_s.T (1 : Int) >>= fun x2 =>
  mkO 8 x2 x2 (0 : Nat) >>= fun l3 =>
  r1[k1]? >>= fun x3 =>
  l3[0]? >>= fun x4 =>
  some (l3.set 0 x3) >>= fun l4 =>
  appO 24 l1 ([l4] : List (List Nat)) >>= fun l5 =>
  some l5
def privityref25_Row (p_s : T_api_Params) (p_q : List Nat) : Option (List (List Nat)) :=
  privityref09_Shares p_s.P p_s.N p_q >>= fun r1 =>
  ckN (max 0 (p_s.N).toNat) >>= fun u1 =>
  rgS (fun k1 (st : (List (List Nat))) => privityref25_Row_L0 p_s r1 k1 st) ((max 0 (p_s.N).toNat) - 0) 0 ([] : List (List Nat)) >>= fun l2 =>
  some l2
def triplestore_first_L1 (x3 : List (List Nat)) (k2 : Nat) (l4 : List (List Nat)) : Option (List (List Nat)) :=
  x3[k2]? >>= fun x5 =>
  l4[k2]? >>= fun x6 =>
  x5[0]? >>= fun x7 =>
  appO 8 x6 ([x7] : List Nat) >>= fun l6 =>
  some (l4.set k2 l6) >>= fun l7 =>
  some l7
def triplestore_first_L0 (p_l : List (List (List Nat))) (k1 : Nat) (l2 : List (List Nat)) : Option (List (List Nat)) :=
  p_l[k1]? >>= fun x3 =>
  rgS (fun k2 (st : (List (List Nat))) => triplestore_first_L1 x3 k2 st) (x3.length - 0) 0 l2 >>= fun l5 =>
  some l5
def triplestore_first (p_l : List (List (List Nat))) : Option (List (List Nat)) :=
  p_l[0]? >>= fun x1 =>
  mkO 24 ((x1.length : Nat) : Int) ((x1.length : Nat) : Int) ([] : List Nat) >>= fun l1 =>
  rgS (fun k1 (st : (List (List Nat))) => triplestore_first_L0 p_l k1 st) (p_l.length - 0) 0 l1 >>= fun l3 =>
  some l3
def triplestore_Verify_1_L1 (p_y : List (List Nat)) (p_a2 : Nat) (p_a3 : List (List Nat)) (k1 : Nat) (x2 : List Nat) (k2 : Nat) (l3 : List Nat) : Option (List Nat) :=
  p_a3[k1]? >>= fun x4 =>
  x4[0]? >>= fun x5 =>
  x2[k2]? >>= fun x6 =>
  field_Mul p_a2 x5 x6 >>= fun r3 =>
  p_y[k1]? >>= fun x7 =>
  x7[k2]? >>= fun x8 =>
  field_Sub p_a2 r3 x8 >>= fun r4 =>
  appO 8 l3 ([r4] : List Nat) >>= fun l5 =>
  some l5
def triplestore_Verify_1_L0 (p_x : List (List Nat)) (p_y : List (List Nat)) (p_a2 : Nat) (p_a3 : List (List Nat)) (k1 : Nat) (l1 : List (List Nat)) : Option (List (List Nat)) :=
  p_x[k1]? >>= fun x2 =>
  rgS (fun k2 (st : (List Nat)) => triplestore_Verify_1_L1 p_y p_a2 p_a3 k1 x2 k2 st) (x2.length - 0) 0 ([] : List Nat) >>= fun l4 =>
  appO 24 l1 ([l4] : List (List Nat)) >>= fun l6 =>
  some l6
def triplestore_Verify_1 (p_x : List (List Nat)) (p_y : List (List Nat)) (p_a2 : Nat) (p_a3 : List (List Nat)) : Option (List (List Nat)) :=
  rgS (fun k1 (st : (List (List Nat))) => triplestore_Verify_1_L0 p_x p_y p_a2 p_a3 k1 st) (p_x.length - 0) 0 ([] : List (List Nat)) >>= fun l2 =>
  some l2
def triplestore_minus_L1 (p_p : Nat) (p_y : List (List Nat)) (k1 : Nat) (x2 : List Nat) (k2 : Nat) (l3 : List Nat) : Option (List Nat) :=
  x2[k2]? >>= fun x4 =>
  p_y[k1]? >>= fun x5 =>
  x5[k2]? >>= fun x6 =>
  field_Sub p_p x4 x6 >>= fun r3 =>
  appO 8 l3 ([r3] : List Nat) >>= fun l5 =>
  some l5
def triplestore_minus_L0 (p_p : Nat) (p_x : List (List Nat)) (p_y : List (List Nat)) (k1 : Nat) (l1 : List (List Nat)) : Option (List (List Nat)) :=
  p_x[k1]? >>= fun x2 =>
  rgS (fun k2 (st : (List Nat)) => triplestore_minus_L1 p_p p_y k1 x2 k2 st) (x2.length - 0) 0 ([] : List Nat) >>= fun l4 =>
  appO 24 l1 ([l4] : List (List Nat)) >>= fun l6 =>
  some l6
def triplestore_minus (p_p : Nat) (p_x : List (List Nat)) (p_y : List (List Nat)) : Option (List (List Nat)) :=
  rgS (fun k1 (st : (List (List Nat))) => triplestore_minus_L0 p_p p_x p_y k1 st) (p_x.length - 0) 0 ([] : List (List Nat)) >>= fun l2 =>
  some l2
def triplestore_Verify_L1 (p_b : T_api_Triple) (r1 : T_api_Scenario) (k1 : Nat) (x3 : Nat) (x4 : Nat) (k2 : Nat) (l3 : List (List Nat)) : Option (List (List Nat)) :=
  p_b.B[k1]? >>= fun x7 =>
  x7[k2]? >>= fun x8 =>
  field_Mul r1.S.P x3 x8 >>= fun r11 =>
  p_b.A[k1]? >>= fun x9 =>
  x9[k2]? >>= fun x10 =>
  field_Mul r1.S.P x4 x10 >>= fun r12 =>
  field_Add r1.S.P r11 r12 >>= fun r13 =>
  (
    bif ((k2 : Nat) : Int) == (0 : Int) then
      field_Mul r1.S.P x3 x4 >>= fun r14 =>
      field_Add r1.S.P r13 r14 >>= fun r15 =>
      some r15
    else
      some r13
  ) >>= fun x11 =>
  l3[k1]? >>= fun x12 =>
  x12[k2]? >>= fun x13 =>
  field_Sub r1.S.P x13 x11 >>= fun r16 =>
  some (x12.set k2 r16) >>= fun l5 =>
  some (l3.set k1 l5) >>= fun l6 =>
  some l6
def triplestore_Verify_L0 (p_b : T_api_Triple) (r1 : T_api_Scenario) (r7 : (List (List Nat)) × (List (List Int)) × Int × (List (List T_api_Event))) (k1 : Nat) (l1 : List (List Nat)) : Option (List (List Nat)) :=
  r7.1[k1]? >>= fun x2 =>
  x2[0]? >>= fun x3 =>
  x2[1]? >>= fun x4 =>
  l1[k1]? >>= fun x5 =>
  ckN x5.length >>= fun u1 =>
  rgS (fun k2 (st : (List (List Nat))) => triplestore_Verify_L1 p_b r1 k1 x3 x4 k2 st) (x5.length - 0) 0 l1 >>= fun l4 =>
  some l4
def triplestore_Verify_L2 (r18 : (List (List Nat)) × (List (List Int)) × Int × (List (List T_api_Event))) (k3 : Nat) (l7 : List Bool) : Option (List Bool) :=
  r18.1[k3]? >>= fun x15 =>
  x15[0]? >>= fun x16 =>
  appO 1 l7 ([((x16 : Nat) : Int) == (0 : Int)] : List Bool) >>= fun l9 =>
  some l9
def triplestore_Verify (p_n : T_network_Net) (p_a : T_api_Triple) (p_b : T_api_Triple) (p_r : List (List Nat)) : Option ((List Bool) × Int × (List (List T_api_Event))) :=
  network_Net_Scenario p_n >>= fun r1 =>
  triplestore_first ([p_r] : List (List (List Nat))) >>= fun r2 =>
  reconstruct_Values p_n r2 >>= fun r3 =>
  triplestore_Verify_1 p_a.A p_b.A r1.S.P r3.1 >>= fun r4 =>
  triplestore_minus r1.S.P p_a.B p_b.B >>= fun r5 =>
  triplestore_first ([r4, r5] : List (List (List Nat))) >>= fun r6 =>
  reconstruct_Values (⟨p_n.zw, r3.2.2.1, r3.2.2.2, p_n.ztapes⟩ : T_network_Net) r6 >>= fun r7 =>
  triplestore_Verify_1 p_a.C p_b.C r1.S.P r3.1 >>= fun r8 =>
  rgS (fun k1 (st : (List (List Nat))) => triplestore_Verify_L0 p_b r1 r7 k1 st) (r8.length - 0) 0 r8 >>= fun l2 =>
  triplestore_first ([l2] : List (List (List Nat))) >>= fun r17 =>
  reconstruct_Values (⟨p_n.zw, r7.2.2.1, r7.2.2.2, p_n.ztapes⟩ : T_network_Net) r17 >>= fun r18 =>
  rgS (fun k3 (st : (List Bool)) => triplestore_Verify_L2 r18 k3 st) (r18.1.length - 0) 0 ([] : List Bool) >>= fun l8 =>
  some (l8, r18.2.2.1, r18.2.2.2)
def privitylaw25_awake  : Option Bool :=
  privitylaw25_three >>= fun r1 =>
  triplestore_Take r1 ((2 : Nat) : Int) >>= fun r2 =>
  triplestore_Take r2.2.1 ((2 : Nat) : Int) >>= fun r3 =>
  triplestore_Take r2.2.1 ((1 : Nat) : Int) >>= fun r4 =>
  mkO 24 (4 : Int) (4 : Int) (([] : List Nat) : List Nat) >>= fun l1 =>
  network_New (⟨(⟨31, ((4 : Nat) : Int), ((1 : Nat) : Int)⟩ : T_api_Params), ([] : List Int), ([] : List T_api_Deviation), l1⟩ : T_api_Scenario) >>= fun r5 =>
  sumE r5 (fun r6 =>
    some false)
  (fun r7 =>
    privityref25_Row (⟨31, ((4 : Nat) : Int), ((1 : Nat) : Int)⟩ : T_api_Params) ([2, 1] : List Nat) >>= fun r8 =>
    privityref25_Row (⟨31, ((4 : Nat) : Int), ((1 : Nat) : Int)⟩ : T_api_Params) ([3] : List Nat) >>= fun r9 =>
    privityref25_Row (⟨31, ((4 : Nat) : Int), ((1 : Nat) : Int)⟩ : T_api_Params) ([6, 5] : List Nat) >>= fun r10 =>
    privityref25_Row (⟨31, ((4 : Nat) : Int), ((1 : Nat) : Int)⟩ : T_api_Params) ([4] : List Nat) >>= fun r11 =>
    privityref25_Row (⟨31, ((4 : Nat) : Int), ((1 : Nat) : Int)⟩ : T_api_Params) ([5, 1] : List Nat) >>= fun r12 =>
    privityref25_Row (⟨31, ((4 : Nat) : Int), ((1 : Nat) : Int)⟩ : T_api_Params) ([21] : List Nat) >>= fun r13 =>
    privityref25_Row (⟨31, ((4 : Nat) : Int), ((1 : Nat) : Int)⟩ : T_api_Params) ([9] : List Nat) >>= fun r14 =>
    triplestore_Verify r7 (⟨r8, r9, r10⟩ : T_api_Triple) (⟨r8, r9, r10⟩ : T_api_Triple) r14 >>= fun r15 =>
    privityref25_Row (⟨31, ((4 : Nat) : Int), ((1 : Nat) : Int)⟩ : T_api_Params) ([9, 2] : List Nat) >>= fun r16 =>
    triplestore_Verify (⟨r7.zw, r15.2.1, r15.2.2, r7.ztapes⟩ : T_network_Net) (⟨r11, r12, r13⟩ : T_api_Triple) (⟨r8, r9, r10⟩ : T_api_Triple) r16 >>= fun r17 =>
    bif ((r2.1.length : Nat) : Int) == (2 : Int) then
      bif r2.2.1.Used == (2 : Int) then
        bif r2.2.2 == (0 : Int) then
          bif ((r3.1.length : Nat) : Int) == (0 : Int) then
            bif r3.2.1.Used == (2 : Int) then
              bif r3.2.2 == (12 : Int) then
                bif ((r4.1.length : Nat) : Int) == (1 : Int) then
                  bif r4.2.1.Used == (3 : Int) then
                    bif r4.2.2 == (0 : Int) then
                      bif ((r15.1.length : Nat) : Int) == (4 : Int) then
                        r15.1[0]? >>= fun x1 =>
                        bif x1 then
                          r15.1[3]? >>= fun x2 =>
                          bif x2 then
                            bif ((r17.1.length : Nat) : Int) == (4 : Int) then
                              r17.1[0]? >>= fun x3 =>
                              bif !x3 then
                                r17.1[3]? >>= fun x4 =>
                                bif !x4 then
                                  network_Net_Rounds (⟨r7.zw, r17.2.1, r17.2.2, r7.ztapes⟩ : T_network_Net) >>= fun r18 =>
                                  some (r18 == (6 : Int))
                                else
                                  some false
                              else
                                some false
                            else
                              some false
                          else
                            some false
                        else
                          some false
                      else
                        some false
                    else
                      some false
                  else
                    some false
                else
                  some false
              else
                some false
            else
              some false
          else
            some false
        else
          some false
      else
        some false
    else
      some false)
def privityref12_Light_L0 (p_w : T_api_Scenario) (p_words : Int) (k1 : Nat) : Option (Out Unit Bool) :=
  p_w.Tapes[k1]? >>= fun x2 =>
  bif decide (((x2.length : Nat) : Int) > p_words) then
    some (.fin false)
  else
    some (.go ())
def privityref12_Light (p_w : T_api_Scenario) (p_parties : Int) (p_lies : Int) (p_words : Int) : Option Bool :=
  (
    bif decide (p_w.S.N > p_parties) then
      some true
    else
      bif decide (((p_w.Deviations.length : Nat) : Int) > p_lies) then
        some true
      else
        some (decide (((p_w.Tapes.length : Nat) : Int) > p_parties))
  ) >>= fun x1 =>
  bif x1 then
    some false
  else
    rgO (fun k1 (st : Unit) => privityref12_Light_L0 p_w p_words k1) (p_w.Tapes.length - 0) 0 () >>= fun r1 => outB r1 (fun x => some x) fun _ =>
    privityref12_ValidScenario p_w >>= fun r2 =>
    some r2
def privitylaw25_fair_L0 (p_q : T_privitylaw25_Ask) (k1 : Nat) : Option (Out Unit Bool) :=
  ([p_q.A.e0, p_q.A.e1, p_q.A.e2, p_q.B.e0, p_q.B.e1, p_q.B.e2, p_q.R] : List (List Nat))[k1]? >>= fun x1 =>
  addI p_q.W.S.T (1 : Int) >>= fun x2 =>
  bif ((x1.length : Nat) : Int) != x2 then
    some (.fin false)
  else
    privityref05_Below p_q.W.S.P x1 >>= fun r3 =>
    bif !r3 then
      some (.fin false)
    else
      some (.go ())
def privitylaw25_fair (p_q : T_privitylaw25_Ask) : Option Bool :=
  privityref12_Light p_q.W ((7 : Nat) : Int) ((8 : Nat) : Int) ((10 : Nat) : Int) >>= fun r1 =>
  bif !r1 then
    some false
  else
    rgO (fun k1 (st : Unit) => privitylaw25_fair_L0 p_q k1) ((([p_q.A.e0, p_q.A.e1, p_q.A.e2, p_q.B.e0, p_q.B.e1, p_q.B.e2, p_q.R] : List (List Nat)).length) - 0) 0 () >>= fun r2 => outB r2 (fun x => some x) fun _ =>
    some true
def privitylaw25_of (p_s : T_api_Params) (p_l : T_arr3_30) : Option T_api_Triple :=
  privityref25_Row p_s p_l.e0 >>= fun r1 =>
  privityref25_Row p_s p_l.e1 >>= fun r2 =>
  privityref25_Row p_s p_l.e2 >>= fun r3 =>
  some (⟨r1, r2, r3⟩ : T_api_Triple)
def privityref09_LocalShares_L1 (p_l : List (List (List Nat))) (x1 : Int) (k2 : Nat) (l4 : List Nat) : Option (List Nat) :=
  p_l[k2]? >>= fun x4 =>
  idx x4 x1 >>= fun x5 =>
  x5[0]? >>= fun x6 =>
  appO 8 l4 ([x6] : List Nat) >>= fun l6 =>
  some l6
def privityref09_LocalShares_L0 (p_l : List (List (List Nat))) (l1 : List (List Nat)) (x1 : Int) : Option (Out ((List (List Nat)) × Int) (List (List Nat))) :=
  p_l[0]? >>= fun x2 =>
  bif decide (x1 < ((x2.length : Nat) : Int)) then
    rgS (fun k2 (st : (List Nat)) => privityref09_LocalShares_L1 p_l x1 k2 st) (p_l.length - 0) 0 ([] : List Nat) >>= fun l5 =>
    appO 24 l1 ([l5] : List (List Nat)) >>= fun l7 =>
    addI x1 (1 : Int) >>= fun x7 =>
    some (.go (l7, x7))
  else
    some (.fin l1)
def privityref09_LocalShares (p_l : List (List (List Nat))) : Option (List (List Nat)) :=
  bif ((p_l.length : Nat) : Int) == (0 : Int) then
    some ([] : List (List Nat))
  else
    lpO (fun (st : (List (List Nat)) × Int) => privityref09_LocalShares_L0 p_l st.1 st.2) big (([] : List (List Nat)), ((0 : Nat) : Int)) >>= fun l3 =>
    some l3
def privityref20_numbers_L0 (p_caught : List Bool) (k1 : Nat) (l1 : List Int) : Option (List Int) :=
  p_caught[k1]? >>= fun x2 =>
  bif x2 then
    addI ((k1 : Nat) : Int) (1 : Int) >>= fun x3 =>
    appO 8 l1 ([x3] : List Int) >>= fun l3 =>
    some l3
  else
    some l1
def privityref20_numbers (p_caught : List Bool) : Option (List Int) :=
  rgS (fun k1 (st : (List Int)) => privityref20_numbers_L0 p_caught k1 st) (p_caught.length - 0) 0 ([] : List Int) >>= fun l2 =>
  some l2
def privityref20_Values_L2 (r6 : (List Nat) × (List Int) × Bool) (k3 : Nat) (l14 : List Bool) : Option (List Bool) :=
  r6.2.1[k3]? >>= fun x7 =>
  idx l14 x7 >>= fun x8 =>
  some (l14.set x7.toNat true) >>= fun l16 =>
  some l16
def privityref20_Values_L1 (r1 : T_api_Scenario) (r3 : (List (List (List Nat))) × Int × (List (List T_api_Event))) (k1 : Nat) (k2 : Nat) (l8 : List (List Nat)) (l9 : List Bool) : Option ((List (List Nat)) × (List Bool)) :=
  r3.1[k1]? >>= fun x4 =>
  privityref20_Decoded r1.S x4 ((k2 : Nat) : Int) >>= fun r6 =>
  l8[k1]? >>= fun x5 =>
  privityref04_Coefficient r6.1 ((0 : Nat) : Int) >>= fun r7 =>
  appO 8 x5 ([r7] : List Nat) >>= fun l12 =>
  some (l8.set k1 l12) >>= fun l13 =>
  rgS (fun k3 (st : (List Bool)) => privityref20_Values_L2 r6 k3 st) (r6.2.1.length - 0) 0 l9 >>= fun l15 =>
  some (l13, l15)
def privityref20_Values_L0 (r1 : T_api_Scenario) (x1 : List Nat) (r3 : (List (List (List Nat))) × Int × (List (List T_api_Event))) (k1 : Nat) (l3 : List (List Nat)) (l4 : List (List Int)) : Option ((List (List Nat)) × (List (List Int))) :=
  mkO 1 r1.S.N r1.S.N (false : Bool) >>= fun l7 =>
  ckN x1.length >>= fun u2 =>
  rgS (fun k2 (st : (List (List Nat)) × (List Bool)) => privityref20_Values_L1 r1 r3 k1 k2 st.1 st.2) (x1.length - 0) 0 (l3, l7) >>= fun (l10, l11) =>
  privityref20_numbers l11 >>= fun r9 =>
  l4[k1]? >>= fun x9 =>
  some (l4.set k1 r9) >>= fun l17 =>
  some (l10, l17)
def privityref20_Values (p_n : T_privityref14_Net) (p_shares : List (List Nat)) : Option ((List (List Nat)) × (List (List Int)) × Int × (List (List T_api_Event))) :=
  privityref14_Net_Scenario p_n >>= fun r1 =>
  mkO 24 r1.S.N r1.S.N ([] : List Nat) >>= fun l1 =>
  mkO 24 r1.S.N r1.S.N ([] : List Int) >>= fun l2 =>
  p_shares[0]? >>= fun x1 =>
  bif ((x1.length : Nat) : Int) == (0 : Int) then
    some (l1, l2, p_n.zround, p_n.zviews)
  else
    privityref20_lists p_shares >>= fun r2 =>
    privityref14_Net_Send p_n r2 >>= fun r3 =>
    ckN (max 0 (r1.S.N).toNat) >>= fun u1 =>
    rgS (fun k1 (st : (List (List Nat)) × (List (List Int))) => privityref20_Values_L0 r1 x1 r3 k1 st.1 st.2) ((max 0 (r1.S.N).toNat) - 0) 0 (l1, l2) >>= fun (l5, l6) =>
    some (l5, l6, r3.2.1, r3.2.2)
def privityref25_Verify_L0 (p_a : T_api_Triple) (p_b : T_api_Triple) (r1 : T_api_Scenario) (r3 : (List (List Nat)) × (List (List Int)) × Int × (List (List T_api_Event))) (k1 : Nat) (l1 : List (List Nat)) : Option (List (List Nat)) :=
  r3.1[k1]? >>= fun x2 =>
  x2[0]? >>= fun x3 =>
  p_a.A[k1]? >>= fun x4 =>
  x4[0]? >>= fun x5 =>
  privityref01_Mul r1.S.P x3 x5 >>= fun r5 =>
  p_b.A[k1]? >>= fun x6 =>
  x6[0]? >>= fun x7 =>
  privityref01_Sub r1.S.P r5 x7 >>= fun r6 =>
  p_a.B[k1]? >>= fun x8 =>
  x8[0]? >>= fun x9 =>
  p_b.B[k1]? >>= fun x10 =>
  x10[0]? >>= fun x11 =>
  privityref01_Sub r1.S.P x9 x11 >>= fun r7 =>
  appO 24 l1 ([([r6, r7] : List Nat)] : List (List Nat)) >>= fun l3 =>
  some l3
def privityref25_Verify_L1 (p_a : T_api_Triple) (p_b : T_api_Triple) (r1 : T_api_Scenario) (r3 : (List (List Nat)) × (List (List Int)) × Int × (List (List T_api_Event))) (r8 : (List (List Nat)) × (List (List Int)) × Int × (List (List T_api_Event))) (k2 : Nat) (l4 : List (List Nat)) : Option (List (List Nat)) :=
  r8.1[k2]? >>= fun x13 =>
  x13[0]? >>= fun x14 =>
  x13[1]? >>= fun x15 =>
  r3.1[k2]? >>= fun x16 =>
  x16[0]? >>= fun x17 =>
  p_a.C[k2]? >>= fun x18 =>
  x18[0]? >>= fun x19 =>
  privityref01_Mul r1.S.P x17 x19 >>= fun r10 =>
  p_b.C[k2]? >>= fun x20 =>
  x20[0]? >>= fun x21 =>
  privityref01_Sub r1.S.P r10 x21 >>= fun r11 =>
  p_b.B[k2]? >>= fun x22 =>
  x22[0]? >>= fun x23 =>
  privityref01_Mul r1.S.P x14 x23 >>= fun r12 =>
  privityref01_Sub r1.S.P r11 r12 >>= fun r13 =>
  p_b.A[k2]? >>= fun x24 =>
  x24[0]? >>= fun x25 =>
  privityref01_Mul r1.S.P x15 x25 >>= fun r14 =>
  privityref01_Sub r1.S.P r13 r14 >>= fun r15 =>
  privityref01_Mul r1.S.P x14 x15 >>= fun r16 =>
  privityref01_Sub r1.S.P r15 r16 >>= fun r17 =>
  appO 24 l4 ([([r17] : List Nat)] : List (List Nat)) >>= fun l6 =>
  some l6
def privityref25_Verify_L2 (r18 : (List (List Nat)) × (List (List Int)) × Int × (List (List T_api_Event))) (k3 : Nat) (l7 : List Bool) : Option (List Bool) :=
  r18.1[k3]? >>= fun x27 =>
  x27[0]? >>= fun x28 =>
  appO 1 l7 ([((x28 : Nat) : Int) == (0 : Int)] : List Bool) >>= fun l9 =>
  some l9
def privityref25_Verify (p_n : T_privityref14_Net) (p_a : T_api_Triple) (p_b : T_api_Triple) (p_r : List (List Nat)) : Option ((List Bool) × Int × (List (List T_api_Event))) :=
  privityref14_Net_Scenario p_n >>= fun r1 =>
  privityref09_LocalShares ([p_r] : List (List (List Nat))) >>= fun r2 =>
  privityref20_Values p_n r2 >>= fun r3 =>
  ckN (max 0 (r1.S.N).toNat) >>= fun u1 =>
  rgS (fun k1 (st : (List (List Nat))) => privityref25_Verify_L0 p_a p_b r1 r3 k1 st) ((max 0 (r1.S.N).toNat) - 0) 0 ([] : List (List Nat)) >>= fun l2 =>
  privityref20_Values (⟨p_n.zw, r3.2.2.1, r3.2.2.2, p_n.ztapes⟩ : T_privityref14_Net) l2 >>= fun r8 =>
  rgS (fun k2 (st : (List (List Nat))) => privityref25_Verify_L1 p_a p_b r1 r3 r8 k2 st) ((max 0 (r1.S.N).toNat) - 0) 0 ([] : List (List Nat)) >>= fun l5 =>
  privityref20_Values (⟨p_n.zw, r8.2.2.1, r8.2.2.2, p_n.ztapes⟩ : T_privityref14_Net) l5 >>= fun r18 =>
  rgS (fun k3 (st : (List Bool)) => privityref25_Verify_L2 r18 k3 st) ((max 0 (r1.S.N).toNat) - 0) 0 ([] : List Bool) >>= fun l8 =>
  some (l8, r18.2.2.1, r18.2.2.2)
def privityref22_SameOut_L0 (p_a : List Bool) (p_b : List Bool) (k1 : Nat) : Option (Out Unit Bool) :=
  p_a[k1]? >>= fun x1 =>
  p_b[k1]? >>= fun x2 =>
  bif (x1 != x2) then
    some (.fin false)
  else
    some (.go ())
def privityref22_SameOut (p_a : List Bool) (p_b : List Bool) : Option Bool :=
  bif ((p_a.length : Nat) : Int) != ((p_b.length : Nat) : Int) then
    some false
  else
    rgO (fun k1 (st : Unit) => privityref22_SameOut_L0 p_a p_b k1) (p_a.length - 0) 0 () >>= fun r1 => outB r1 (fun x => some x) fun _ =>
    some true
def privityref05_Same_L0 (p_a : List Nat) (p_b : List Nat) (k1 : Nat) : Option (Out Unit Bool) :=
  p_a[k1]? >>= fun x1 =>
  p_b[k1]? >>= fun x2 =>
  bif ((x1 : Nat) : Int) != ((x2 : Nat) : Int) then
    some (.fin false)
  else
    some (.go ())
def privityref05_Same (p_a : List Nat) (p_b : List Nat) : Option Bool :=
  bif ((p_a.length : Nat) : Int) != ((p_b.length : Nat) : Int) then
    some false
  else
    rgO (fun k1 (st : Unit) => privityref05_Same_L0 p_a p_b k1) (p_a.length - 0) 0 () >>= fun r1 => outB r1 (fun x => some x) fun _ =>
    some true
def privityref15_SameEvent (p_a : T_api_Event) (p_b : T_api_Event) : Option Bool :=
  bif p_a.Round == p_b.Round then
    bif p_a.From == p_b.From then
      privityref05_Same p_a.Words p_b.Words >>= fun r1 =>
      some r1
    else
      some false
  else
    some false
def privityref15_FirstDifference_L0 (p_a : List T_api_Event) (p_b : List T_api_Event) (x1 : Int) : Option (Out Int (Int ⊕ Unit)) :=
  (
    bif decide (x1 < ((p_a.length : Nat) : Int)) then
      some (decide (x1 < ((p_b.length : Nat) : Int)))
    else
      some false
  ) >>= fun x2 =>
  bif x2 then
    idx p_a x1 >>= fun x3 =>
    idx p_b x1 >>= fun x4 =>
    privityref15_SameEvent x3 x4 >>= fun r2 =>
    bif !r2 then
      some (.fin (.inl x1))
    else
      addI x1 (1 : Int) >>= fun x5 =>
      some (.go x5)
  else
    some (.fin (.inr ()))
def privityref15_FirstDifference (p_a : List T_api_Event) (p_b : List T_api_Event) : Option Int :=
  lpO (fun (st : Int) => privityref15_FirstDifference_L0 p_a p_b st) big ((0 : Nat) : Int) >>= fun r1 => sumB r1 (fun x => some x) fun _ =>
  bif ((p_a.length : Nat) : Int) == ((p_b.length : Nat) : Int) then
    some (-1)
  else
    bif decide (((p_a.length : Nat) : Int) < ((p_b.length : Nat) : Int)) then
      some ((p_a.length : Nat) : Int)
    else
      some ((p_b.length : Nat) : Int)
def privityref15_Same (p_a : List T_api_Event) (p_b : List T_api_Event) : Option Bool :=
  privityref15_FirstDifference p_a p_b >>= fun r1 =>
  some (decide (r1 < (0 : Int)))
def privitylaw25_TriplestoreVerifyMatchesReference_L0 (r5 : T_network_Net) (r11 : T_privityref14_Net) (r15 : (List Bool) × Int × (List (List T_api_Event))) (r16 : (List Bool) × Int × (List (List T_api_Event))) (k1 : Nat) : Option (Out Unit Bool) :=
  network_Net_View (⟨r5.zw, r15.2.1, r15.2.2, r5.ztapes⟩ : T_network_Net) ((k1 : Nat) : Int) >>= fun r20 =>
  privityref14_Net_View (⟨r11.zw, r16.2.1, r16.2.2, r11.ztapes⟩ : T_privityref14_Net) ((k1 : Nat) : Int) >>= fun r21 =>
  privityref15_Same r20 r21 >>= fun r22 =>
  bif !r22 then
    some (.fin false)
  else
    some (.go ())
def privitylaw25_TriplestoreVerifyMatchesReference (p_q : T_privitylaw25_Ask) : Option Bool :=
  privitylaw25_awake >>= fun r1 =>
  bif !r1 then
    some false
  else
    privitylaw25_fair p_q >>= fun r2 =>
    bif !r2 then
      some true
    else
      network_New p_q.W >>= fun r3 =>
      sumE r3 (fun r4 =>
        privityref14_New p_q.W >>= fun r6 =>
        sumE r6 (fun r7 =>
          some false)
        (fun r8 =>
          some false))
      (fun r5 =>
        privityref14_New p_q.W >>= fun r9 =>
        sumE r9 (fun r10 =>
          some false)
        (fun r11 =>
          privitylaw25_of p_q.W.S p_q.A >>= fun r12 =>
          privitylaw25_of p_q.W.S p_q.B >>= fun r13 =>
          privityref25_Row p_q.W.S p_q.R >>= fun r14 =>
          triplestore_Verify r5 r12 r13 r14 >>= fun r15 =>
          privityref25_Verify r11 r12 r13 r14 >>= fun r16 =>
          (
            privityref22_SameOut r15.1 r16.1 >>= fun r17 =>
            bif !r17 then
              some true
            else
              network_Net_Rounds (⟨r5.zw, r15.2.1, r15.2.2, r5.ztapes⟩ : T_network_Net) >>= fun r18 =>
              some (r18 != (3 : Int))
          ) >>= fun x1 =>
          bif x1 then
            some false
          else
            ckN (max 1 (p_q.W.S.N + 1).toNat) >>= fun u1 =>
            rgO (fun k1 (st : Unit) => privitylaw25_TriplestoreVerifyMatchesReference_L0 r5 r11 r15 r16 k1) ((max 1 (p_q.W.S.N + 1).toNat) - 1) 1 () >>= fun r19 => outB r19 (fun x => some x) fun _ =>
            some true))
end Pu
