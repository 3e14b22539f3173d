/- The ledger of triples: two calls hand out what one call does (the law privitylaw25.TriplestoreTakeIsAdditive returns true for every list of triples and all numbers). -/
import Derived.Test.YtclhpomlfadohaaDoorKAc2
import Derived.Test.YtclhpomlfadohaaDoorPa1
import Derived.Test.YtclhpomlfadohaaDoorCards
import Derived.Test.YtclhpomlfadohaaDoorTie
import Derived.Test.YtclhpomlfadohaaDoorTp2
import Derived.Test.YtclhpomlfadohaaDoorTf
import Derived.Test.YtclhpomlfadohaaDoorTg
import Derived.Test.YtclhpomlfadohaaDoorTh
import Derived.SevenTiedAt
import Derived.ProofKit
import Derived.LaidMore
import Derived.OpenShut
import Derived.Stop.Joined
set_option linter.unusedVariables false
namespace Go.Proofs.YtclhpomlfadohaaDoor
open Go Gv Gw Pu Go.ChangeShapes Go.WideShapes Go.ChangeAt Go.RowKit Go.Deep
theorem own : ownKnob Tryd.prog.godebug = none := by kernel_rfl
theorem laidOut : laidOutB Tryd.prog = true := by kernel_rfl
abbrev lay : List (String × DataW Unit) := [("privity/field.exps", Rows.laid_privity_field_exps)]
abbrev exB : List Value := [.int .i64 ((5 : Nat) : Int), .int .i64 ((7 : Nat) : Int), .int .i64 ((13 : Nat) : Int), .int .i64 ((17 : Nat) : Int), .int .i64 ((19 : Nat) : Int), .int .i64 ((31 : Nat) : Int), .int .i64 ((61 : Nat) : Int)]
theorem gExps : Tryd.prog.globalNamed "privity/field.exps" = some 0 := by kernel_rfl
theorem tExps : (Tryd.prog.globals[0]?).map (·.type) = some 202 := by kernel_rfl
theorem door_met (os : Os) (args : Array Value) : laidMetH Tryd.prog lay ((World.doorLaid Tryd.prog 400 os).forCall (fun _ _ => 0) ⟨#[], args, []⟩).memory :=
  laidMetH_of_parts3 (fuel := 8) (laidMet_of_run' 8 (by kernel_rfl) (by kernel_rfl)) (by kernel_rfl) (by kernel_rfl)
theorem exps_of_laid {W : World} (h : laidMetH Tryd.prog lay W) : (frB 0 exB).q (allF W) := by
  rw [MakeChecks.laidMetH_plain _ _ _ (by kernel_rfl)] at h
  obtain ⟨ps, ⟨g0, t0, cs0, f0, p0, q0, hg0, ht0, hv0, hd0, _, _⟩, _, _⟩ := h
  obtain rfl := Option.some.inj (gExps.symm.trans hg0)
  obtain rfl := Option.some.inj (tExps.symm.trans ht0)
  have e := arr_lits (zs := [5, 7, 13, 17, 19, 31, 61]) Tryd.underlying202 Tryd.underlying3 (by kernel_rfl) (by kernel_rfl) hd0
  simp only [World.var?, gExps, Option.bind_some] at hv0
  split at hv0
  · next c e1 f1 hh =>
    have hc := Option.some.inj hv0
    subst hc
    have hlt : 0 < W.heap.size := by
      rcases Nat.eq_zero_or_pos W.heap.size with z | z
      · rw [Array.getElem?_eq_none (by omega)] at hh; cases hh
      · exact z
    refine ⟨hlt, e1, f1, ?_⟩
    show W.heap[0]? = _
    rw [hh]
    obtain ⟨l⟩ := c
    have e2 : l = exB := e
    rw [e2]
  · cases hv0
def ok_22 : Nat → Prop := fun x : Nat => x < 18446744073709551616
theorem O_22 : Opens Tryd.prog 22 Kd.u64 ok_22 := opens_u64 Tryd.underlying22
def ok_30 : List Nat → Prop := fun xs : List Nat => xs.length ≤ 140737488355328 ∧ ∀ x ∈ xs, ok_22 x
theorem O_30 : Opens Tryd.prog 30 (Kd.sl Kd.u64) ok_30 := opens_sl Tryd.underlying30 (by kernel_rfl) (by decide) (of_decide_eq_true (by kernel_rfl)) O_22
def ok_44 : List (List Nat) → Prop := fun xs : List (List Nat) => xs.length ≤ 140737488355328 ∧ ∀ x ∈ xs, ok_30 x
theorem O_44 : Opens Tryd.prog 44 (Kd.sl (Kd.sl Kd.u64)) ok_44 := opens_sl Tryd.underlying44 (by kernel_rfl) (by decide) (of_decide_eq_true (by kernel_rfl)) O_30
instance : Inhabited T_api_Triple := ⟨⟨default, default, default⟩⟩
def ok_101 : T_api_Triple → Prop := fun x : T_api_Triple => ok_44 x.A ∧ ok_44 x.B ∧ ok_44 x.C
theorem O_101 : Opens Tryd.prog 101 K_api_Triple ok_101 := opens_struct (ok := fun y : (List (List Nat)) × (List (List Nat)) × (List (List Nat)) => ok_44 y.1 ∧ ok_44 y.2.1 ∧ ok_44 y.2.2) (f := fun x : T_api_Triple => (x.A, x.B, x.C)) (fun a : (List (List Nat)) × (List (List Nat)) × (List (List Nat)) => ⟨a.1, a.2.1, a.2.2⟩) (fun _ => rfl) Tryd.underlying101 (by kernel_rfl) (opensF_cons (by kernel_rfl) O_44 (opensF_cons (by kernel_rfl) O_44 (opensF_one (by kernel_rfl) O_44) rfl) rfl)
def ok_79 : List T_api_Triple → Prop := fun xs : List T_api_Triple => xs.length ≤ 140737488355328 ∧ ∀ x ∈ xs, ok_101 x
theorem O_79 : Opens Tryd.prog 79 (Kd.sl K_api_Triple) ok_79 := opens_sl Tryd.underlying79 (by kernel_rfl) (by decide) (of_decide_eq_true (by kernel_rfl)) O_101
def ok_5 : Nat → Prop := fun x : Nat => x < 256
theorem O_5 : Opens Tryd.prog 5 Kd.u8 ok_5 := opens_u8 Tryd.underlying5
set_option maxRecDepth 100000 in
theorem triplestoreTakeIsAdditive_lifted (os : Os) (started : os.Started) (H : Type) (enc : TypeId × Value → H) :
    ReturnsInHanded {} Tryd.checked os 16 .any (fun w args => (Rows.triplestoreTakeIsAdditiveSpec.pre enc Tryd.prog Tryd.f16 [] false w args ∧ laidMetH Tryd.prog lay w) ∧ sizedMet enc Tryd.prog Tryd.f16 (OpenSpec.ofChange Rows.triplestoreTakeIsAdditiveSpec) false w args)
      (Rows.triplestoreTakeIsAdditiveSpec.post enc Tryd.prog Tryd.f16 false true false false) := by
  refine returnsInHanded_of_change_and (C := Tryd.checked) (X := fun w _ => laidMetH Tryd.prog lay w) (fun _ _ _ hh h => h.of_heap hh) own started (by kernel_rfl) Tryd.func16
    (ChangeSpec.witness_shaped (enc := enc) (C := Tryd.checked) (os := os) (X := fun w _ => laidMetH Tryd.prog lay w) false (World.doorLaid Tryd.prog 400 os) #[.slice none 0 0, .int .u8 0, .int .u8 0] 8 rfl (World.shaped_of_RefB (by kernel_rfl) (by kernel_rfl)) (by kernel_rfl) (by kernel_rfl) (by kernel_rfl) (door_met os _)) ?_
  intro W base args ds gs before hval0 hW _ hsz hL _
  have hval : ∀ (j : Nat) t v, Tryd.f16.params[j]? = some t → args[j]? = some v → Value.okWide Tryd.prog W .any base t v := hval0
  have hsz1 : (DataW.weightsEach Tryd.prog (Tryd.f16.params.toList ++ []) (ds ++ gs)).all (· ≤ reachBytes) = true := hsz
  have hW' := hW
  obtain ⟨p, q, hA0, hV, rfl, hfz, hnd⟩ := hW
  have hA : DataW.TrodAll enc Tryd.prog W 0 (fun _ => true) true Tryd.f16.params.toList args.toList ds p := hA0
  rw [Tryd.params16] at hA hval hsz1
  obtain ⟨v0, vs0, d0, ds0, p0, q0, hargs, rfl, rfl, h0, r0⟩ := trodAll_cons hA
  obtain ⟨v1, vs1, d1, ds1, p1, q1, rfl, rfl, rfl, h1, r1⟩ := trodAll_cons r0
  obtain ⟨v2, vs2, d2, ds2, p2, q2, rfl, rfl, rfl, h2, r2⟩ := trodAll_cons r1
  obtain ⟨rfl, rfl, rfl⟩ := trodAll_nil r2
  obtain rfl : args = #[v0, v1, v2] := by cases args; simp_all
  obtain ⟨rfl, rfl⟩ := trodVars_none hV
  have k0 := h0
  have lt0 : ∀ x ∈ p0, x.block < W.heap.size := by obtain ⟨m, hm⟩ := k0; exact DataW.trod_lt m _ _ _ hm
  have k1 := h1
  have lt1 : ∀ x ∈ p1, x.block < W.heap.size := by obtain ⟨m, hm⟩ := k1; exact DataW.trod_lt m _ _ _ hm
  have k2 := h2
  have lt2 : ∀ x ∈ p2, x.block < W.heap.size := by obtain ⟨m, hm⟩ := k2; exact DataW.trod_lt m _ _ _ hm
  obtain ⟨x0, it0, ok0⟩ := arg_slice Tryd.underlying79 O_79 (hval 0 79 v0 rfl rfl) h0 (wok_each hsz1 0 79 d0 rfl rfl)
  obtain ⟨x1, rfl, ok1⟩ := arg_u8 Tryd.underlying5 (hval 1 5 v1 rfl rfl) h1
  obtain ⟨x2, rfl, ok2⟩ := arg_u8 Tryd.underlying5 (hval 2 5 v2 rfl rfl) h2
  have hlaw := Pu.law_TakeIsAdditive x0 x1 x2 ok1 ok2
  have hpre : ∀ a ∈ ([rdV K_api_Triple v0 x0] ++ [frB 0 exB]), a.bs = [] ∧ a.q (allF W) := by
    intro a ha
    rcases List.mem_append.1 ha with ha | ha
    · rw [List.mem_singleton] at ha; subst ha; exact it0
    · rw [List.mem_singleton] at ha; subst ha; exact ⟨rfl, exps_of_laid hL⟩
  refine (law_run (c_privitylaw25_TriplestoreTakeIsAdditive hlaw) (fun v L h => h.1) hpre).mono fun e W' ⟨he, bel⟩ => ?_
  subst he
  exact ⟨_, rfl, _, _, _, [], _, [], hW', trodAll_mk1 (shut_bool Tryd.underlying4 _), (trodAll_cons_mk (Below.trod laidOut (by kernel_rfl) (of_decide_eq_true (by kernel_rfl)) k0 bel lt0) (trodAll_cons_mk (Below.trod laidOut (by kernel_rfl) (of_decide_eq_true (by kernel_rfl)) k1 bel lt1) (trodAll_cons_mk (Below.trod laidOut (by kernel_rfl) (of_decide_eq_true (by kernel_rfl)) k2 bel lt2) trodAll_mk0))), rfl, bel.frame _, fun h => by cases h⟩
theorem triplestoreTakeIsAdditive_q0 : (fun (P : Program) (f : FuncId) (fn : Func) (s : ChangeSpec) (c : OpenClaim) => (c.wf (OpenSpec.ofChange s) : Bool)) Tryd.prog 16 Tryd.f16 Rows.triplestoreTakeIsAdditiveSpec Rows.triplestoreTakeIsAdditiveRow = true := by kernel_rfl
theorem triplestoreTakeIsAdditive_q3 : (fun (P : Program) (f : FuncId) (fn : Func) (s : ChangeSpec) (c : OpenClaim) => (fn.params.all (P.readableRec ·) : Bool)) Tryd.prog 16 Tryd.f16 Rows.triplestoreTakeIsAdditiveSpec Rows.triplestoreTakeIsAdditiveRow = true := by kernel_rfl
theorem triplestoreTakeIsAdditive_q4 : (fun (P : Program) (f : FuncId) (fn : Func) (s : ChangeSpec) (c : OpenClaim) => (namedTie P c.named s.vars : Bool)) Tryd.prog 16 Tryd.f16 Rows.triplestoreTakeIsAdditiveSpec Rows.triplestoreTakeIsAdditiveRow = true := by kernel_rfl
theorem triplestoreTakeIsAdditive_q5 : (fun (P : Program) (f : FuncId) (fn : Func) (s : ChangeSpec) (c : OpenClaim) => ((c.stops == []) : Bool)) Tryd.prog 16 Tryd.f16 Rows.triplestoreTakeIsAdditiveSpec Rows.triplestoreTakeIsAdditiveRow = true := by kernel_rfl
theorem triplestoreTakeIsAdditive_q7 : (fun (P : Program) (f : FuncId) (fn : Func) (s : ChangeSpec) (c : OpenClaim) => ((c.knobs == []) : Bool)) Tryd.prog 16 Tryd.f16 Rows.triplestoreTakeIsAdditiveSpec Rows.triplestoreTakeIsAdditiveRow = true := by kernel_rfl
theorem triplestoreTakeIsAdditive_q9 : (fun (P : Program) (f : FuncId) (fn : Func) (s : ChangeSpec) (c : OpenClaim) => ((c.inPlace == P.inPlace f) : Bool)) Tryd.prog 16 Tryd.f16 Rows.triplestoreTakeIsAdditiveSpec Rows.triplestoreTakeIsAdditiveRow = true := by kernel_rfl
theorem triplestoreTakeIsAdditive_q10 : (fun (P : Program) (f : FuncId) (fn : Func) (s : ChangeSpec) (c : OpenClaim) => ((c.unfollowed == P.unfollowed f) : Bool)) Tryd.prog 16 Tryd.f16 Rows.triplestoreTakeIsAdditiveSpec Rows.triplestoreTakeIsAdditiveRow = true := by kernel_rfl
theorem triplestoreTakeIsAdditive_q11 : (fun (P : Program) (f : FuncId) (fn : Func) (s : ChangeSpec) (c : OpenClaim) => ((c.recurses == P.recurses f) : Bool)) Tryd.prog 16 Tryd.f16 Rows.triplestoreTakeIsAdditiveSpec Rows.triplestoreTakeIsAdditiveRow = true := by kernel_rfl
theorem triplestoreTakeIsAdditive_q12 : (fun (P : Program) (f : FuncId) (fn : Func) (s : ChangeSpec) (c : OpenClaim) => ((c.named == P.varsNamed f) : Bool)) Tryd.prog 16 Tryd.f16 Rows.triplestoreTakeIsAdditiveSpec Rows.triplestoreTakeIsAdditiveRow = true := by kernel_rfl
theorem triplestoreTakeIsAdditive_q13 : (fun (P : Program) (f : FuncId) (fn : Func) (s : ChangeSpec) (c : OpenClaim) => ((c.maps == (fn.params.toList ++ s.plain.varTypes P).any (P.mapsRec ·)) : Bool)) Tryd.prog 16 Tryd.f16 Rows.triplestoreTakeIsAdditiveSpec Rows.triplestoreTakeIsAdditiveRow = true := by kernel_rfl
theorem triplestoreTakeIsAdditive_q14 : (fun (P : Program) (f : FuncId) (fn : Func) (s : ChangeSpec) (c : OpenClaim) => ((c.ifaces == (fn.params.toList ++ s.plain.varTypes P).any (P.ifacesRec ·)) : Bool)) Tryd.prog 16 Tryd.f16 Rows.triplestoreTakeIsAdditiveSpec Rows.triplestoreTakeIsAdditiveRow = true := by kernel_rfl
theorem triplestoreTakeIsAdditive_q15 : (fun (P : Program) (f : FuncId) (fn : Func) (s : ChangeSpec) (c : OpenClaim) => ((c.mapsOut == P.mapsAmong fn.resultTypes.toList) : Bool)) Tryd.prog 16 Tryd.f16 Rows.triplestoreTakeIsAdditiveSpec Rows.triplestoreTakeIsAdditiveRow = true := by kernel_rfl
theorem triplestoreTakeIsAdditive_q16 : (fun (P : Program) (f : FuncId) (fn : Func) (s : ChangeSpec) (c : OpenClaim) => ((c.loops == (fn.params.toList ++ s.plain.varTypes P).any (P.loopsFrom ·)) : Bool)) Tryd.prog 16 Tryd.f16 Rows.triplestoreTakeIsAdditiveSpec Rows.triplestoreTakeIsAdditiveRow = true := by kernel_rfl
theorem triplestoreTakeIsAdditive_q17 : (fun (P : Program) (f : FuncId) (fn : Func) (s : ChangeSpec) (c : OpenClaim) => ((c.wideKeys == (fn.params.toList ++ s.plain.varTypes P ++ fn.resultTypes.toList).any (P.wideKeysFrom ·)) : Bool)) Tryd.prog 16 Tryd.f16 Rows.triplestoreTakeIsAdditiveSpec Rows.triplestoreTakeIsAdditiveRow = true := by kernel_rfl
theorem triplestoreTakeIsAdditive_q18 : (fun (P : Program) (f : FuncId) (fn : Func) (s : ChangeSpec) (c : OpenClaim) => (s.vars.all (P.varReadable ·) : Bool)) Tryd.prog 16 Tryd.f16 Rows.triplestoreTakeIsAdditiveSpec Rows.triplestoreTakeIsAdditiveRow = true := by kernel_rfl
theorem triplestoreTakeIsAdditive_q19 : (fun (P : Program) (f : FuncId) (fn : Func) (s : ChangeSpec) (c : OpenClaim) => (fn.resultTypes.all (fun t => P.readableRec t && decide (t < P.types.size)) : Bool)) Tryd.prog 16 Tryd.f16 Rows.triplestoreTakeIsAdditiveSpec Rows.triplestoreTakeIsAdditiveRow = true := by kernel_rfl
theorem triplestoreTakeIsAdditive_q20 : (fun (P : Program) (f : FuncId) (fn : Func) (s : ChangeSpec) (c : OpenClaim) => ((c.ifacesOut == fn.resultTypes.toList.any (P.ifacesRec ·)) : Bool)) Tryd.prog 16 Tryd.f16 Rows.triplestoreTakeIsAdditiveSpec Rows.triplestoreTakeIsAdditiveRow = true := by kernel_rfl
theorem triplestoreTakeIsAdditive_q21 : (fun (P : Program) (f : FuncId) (fn : Func) (s : ChangeSpec) (c : OpenClaim) => ((c.loopsOut == fn.resultTypes.toList.any (P.loopsFrom ·)) : Bool)) Tryd.prog 16 Tryd.f16 Rows.triplestoreTakeIsAdditiveSpec Rows.triplestoreTakeIsAdditiveRow = true := by kernel_rfl
theorem triplestoreTakeIsAdditive_q22 : (fun (P : Program) (f : FuncId) (fn : Func) (s : ChangeSpec) (c : OpenClaim) => ((c.plainKeys == P.plainKeys) : Bool)) Tryd.prog 16 Tryd.f16 Rows.triplestoreTakeIsAdditiveSpec Rows.triplestoreTakeIsAdditiveRow = true := by kernel_rfl
theorem triplestoreTakeIsAdditive_q23 : (fun (P : Program) (f : FuncId) (fn : Func) (s : ChangeSpec) (c : OpenClaim) => (c.shortTexts.isNone : Bool)) Tryd.prog 16 Tryd.f16 Rows.triplestoreTakeIsAdditiveSpec Rows.triplestoreTakeIsAdditiveRow = true := by kernel_rfl
theorem triplestoreTakeIsAdditive_q28 : (fun (P : Program) (f : FuncId) (fn : Func) (s : ChangeSpec) (c : OpenClaim) => ((c.kinds == (if c.domain.isEmpty then [] else fn.params.toList.map fun t => match P.underlying t with | some (.int k) => some k | _ => none)) : Bool)) Tryd.prog 16 Tryd.f16 Rows.triplestoreTakeIsAdditiveSpec Rows.triplestoreTakeIsAdditiveRow = true := by kernel_rfl
theorem triplestoreTakeIsAdditive_q29 : (fun (P : Program) (f : FuncId) (fn : Func) (s : ChangeSpec) (c : OpenClaim) => ((c.pinned == c.pinnedBy) : Bool)) Tryd.prog 16 Tryd.f16 Rows.triplestoreTakeIsAdditiveSpec Rows.triplestoreTakeIsAdditiveRow = true := by kernel_rfl
theorem triplestoreTakeIsAdditive_q30 : (fun (P : Program) (f : FuncId) (fn : Func) (s : ChangeSpec) (c : OpenClaim) => ((c.veiled == (fn.params.toList ++ s.plain.varTypes P ++ fn.resultTypes.toList).any (P.veiledRec ·)) : Bool)) Tryd.prog 16 Tryd.f16 Rows.triplestoreTakeIsAdditiveSpec Rows.triplestoreTakeIsAdditiveRow = true := by kernel_rfl
theorem triplestoreTakeIsAdditive_q31 : (fun (P : Program) (f : FuncId) (fn : Func) (s : ChangeSpec) (c : OpenClaim) => (c.veiledFits P fn.params.toList (fn.params.toList ++ s.plain.varTypes P ++ fn.resultTypes.toList) : Bool)) Tryd.prog 16 Tryd.f16 Rows.triplestoreTakeIsAdditiveSpec Rows.triplestoreTakeIsAdditiveRow = true := by kernel_rfl
set_option maxRecDepth 100000 in
theorem triplestoreTakeIsAdditive_closed : joinedFacts Tryd.prog 16 Tryd.f16 Rows.triplestoreTakeIsAdditiveSpec Rows.triplestoreTakeIsAdditiveRow = true := (ba (ba (ba (ba (ba (ba (ba (ba (ba (ba (ba (ba (ba (ba (ba (ba (ba (ba (ba (ba (ba (ba (ba (ba (ba (ba (ba (ba (ba (ba (ba triplestoreTakeIsAdditive_q0 pf1) pf2) triplestoreTakeIsAdditive_q3) triplestoreTakeIsAdditive_q4) triplestoreTakeIsAdditive_q5) pf6) triplestoreTakeIsAdditive_q7) pf8) triplestoreTakeIsAdditive_q9) triplestoreTakeIsAdditive_q10) triplestoreTakeIsAdditive_q11) triplestoreTakeIsAdditive_q12) triplestoreTakeIsAdditive_q13) triplestoreTakeIsAdditive_q14) triplestoreTakeIsAdditive_q15) triplestoreTakeIsAdditive_q16) triplestoreTakeIsAdditive_q17) triplestoreTakeIsAdditive_q18) triplestoreTakeIsAdditive_q19) triplestoreTakeIsAdditive_q20) triplestoreTakeIsAdditive_q21) triplestoreTakeIsAdditive_q22) triplestoreTakeIsAdditive_q23) pf24) pf25) pf_lift) pf_make) triplestoreTakeIsAdditive_q28) triplestoreTakeIsAdditive_q29) triplestoreTakeIsAdditive_q30) triplestoreTakeIsAdditive_q31)
theorem triplestoreTakeIsAdditive_goes : false = Rows.triplestoreTakeIsAdditiveRow.goesBy Tryd.prog := by kernel_rfl
theorem triplestoreTakeIsAdditive_wf : Rows.triplestoreTakeIsAdditiveRow.wfByText (OpenSpec.ofChange Rows.triplestoreTakeIsAdditiveSpec) = true := by kernel_rfl
theorem triplestoreTakeIsAdditive_row : Rows.TriplestoreTakeIsAdditiveSaid :=
  OpenClaim.holds_of_wide 16 Tryd.f16 rfl rfl rfl rfl rfl rfl rfl ⟨rfl, rfl, rfl, rfl, rfl⟩ rfl rfl rfl rfl rfl (by kernel_rfl) Tryd.func16 triplestoreTakeIsAdditive_closed
    (of_decide_eq_true (by kernel_rfl)) (by unfold Func.isWrapper; first | (rw [if_pos (by decide +kernel)]; kernel_rfl) | (rw [if_neg (by decide +kernel)]; exact ⟨rfl, rfl⟩))
    (fun os started H enc _ => triplestoreTakeIsAdditive_lifted os started H enc)
theorem triplestoreTakeIsAdditive_holds : Rows.TriplestoreTakeIsAdditiveCardSaid :=
  Claim7.holds_tied_plain_at .later [] [.data] true (true, "88dc6ba6eaf6f4a5246ba1c8673511f05a8ad9fa8ac89fc3c20275582183e15b") false
    triplestoreTakeIsAdditive_row (fun _ h => by cases h) triplestoreTakeIsAdditive_wf (fun _ h => by cases h) triplestoreTakeIsAdditive_row_tie rfl ⟨rfl, rfl⟩ pf_main rfl
    (fun f fn hf hfn => by
      obtain rfl : f = 16 := Option.some.inj ((show Tryd.prog.funcNamed "privity/privitylaw25.TriplestoreTakeIsAdditive" = some 16 by kernel_rfl).symm.trans hf) |>.symm
      obtain rfl : fn = Tryd.f16 := (Option.some.inj (Tryd.func16.symm.trans hfn)).symm
      exact ⟨pf_looks, fun j t ht => by
        rw [Tryd.params16] at ht
        have hm : t ∈ [79, 5, 5] := by simpa using Array.mem_of_getElem? ht
        have hall : ([79, 5, 5].all fun u => !Tryd.prog.wantsStandIn u) = true := by kernel_rfl
        exact (show Tryd.prog.wantsStandIn t = false by simpa using List.all_eq_true.1 hall t hm)⟩)
    triplestoreTakeIsAdditive_goes
#print axioms triplestoreTakeIsAdditive_holds
end Go.Proofs.YtclhpomlfadohaaDoor
