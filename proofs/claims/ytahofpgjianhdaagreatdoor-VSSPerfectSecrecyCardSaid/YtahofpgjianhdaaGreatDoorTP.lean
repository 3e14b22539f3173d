/- Translating the polynomial of an honest dealer along the vanishing polynomial of the coalition changes the secret by d and leaves the view of the coalition unchanged (the law privitylaw19.VSSPerfectSecrecy returns true for every input). -/
import Derived.Test.YtahofpgjianhdaaGreatDoorKPc3
import Derived.Test.YtahofpgjianhdaaGreatDoorPn5
import Derived.Test.YtahofpgjianhdaaGreatDoorCards
import Derived.Test.YtahofpgjianhdaaGreatDoorTie
import Derived.Test.YtahofpgjianhdaaGreatDoorTp2
import Derived.Test.YtahofpgjianhdaaGreatDoorTf
import Derived.Test.YtahofpgjianhdaaGreatDoorTg
import Derived.Test.YtahofpgjianhdaaGreatDoorTh
import Derived.SevenTiedAt
import Derived.ProofKit
import Derived.LaidMore
import Derived.OpenShut
import Derived.Stop.Joined
set_option linter.unusedVariables false
namespace Go.Proofs.YtahofpgjianhdaaGreatDoor
open Go Gv Gw Pu Go.ChangeShapes Go.WideShapes Go.ChangeAt Go.RowKit Go.Deep
theorem own:ownKnob Tryz.prog.godebug=none:=by kernel_rfl
theorem laidOut:laidOutB Tryz.prog=true:=by kernel_rfl
abbrev lay : List (String × DataW Unit) := [("privity/field.exps", Rows.laid_privity_field_exps)]
abbrev exB:List Value:=[.int .i64 ((5:Nat):Int),.int .i64 ((7:Nat):Int),.int .i64 ((13:Nat):Int),.int .i64 ((17:Nat):Int),.int .i64 ((19:Nat):Int),.int .i64 ((31:Nat):Int),.int .i64 ((61:Nat):Int)]
theorem gExps : Tryz.prog.globalNamed "privity/field.exps" = some 0 := by kernel_rfl
theorem tExps:(Tryz.prog.globals[0]?).map (·.type)=some 226:=by kernel_rfl
theorem door_met (os:Os) (args:Array Value):laidMetH Tryz.prog lay ((World.doorLaid Tryz.prog 400 os).forCall (fun _ _=>0) ⟨#[],args,[]⟩).memory :=
  laidMetH_of_parts3 (fuel:=8) (laidMet_of_run' 8 (by kernel_rfl) (by kernel_rfl)) (by kernel_rfl) (by kernel_rfl)
theorem exps_of_laid {W:World} (h:laidMetH Tryz.prog lay W):(frB 0 exB).q (allF W):=by
  rw [MakeChecks.laidMetH_plain _ _ _ (by kernel_rfl)] at h
  obtain ⟨ps,⟨g0,t0,cs0,f0,p0,q0,hg0,ht0,hv0,hd0,_,_⟩,_,_⟩:=h
  obtain rfl:=Option.some.inj (gExps.symm.trans hg0)
  obtain rfl:=Option.some.inj (tExps.symm.trans ht0)
  have e:=arr_lits (zs:=[5,7,13,17,19,31,61]) Tryz.underlying226 Tryz.underlying3 (by kernel_rfl) (by kernel_rfl) hd0
  simp only [World.var?,gExps,Option.bind_some] at hv0
  split at hv0
  · next c e1 f1 hh =>
    have hc:=Option.some.inj hv0
    subst hc
    have hlt:0 < W.heap.size:=by
      rcases Nat.eq_zero_or_pos W.heap.size with z | z
      · rw [Array.getElem?_eq_none (by omega)] at hh;cases hh
      · exact z
    refine ⟨hlt,e1,f1,?_⟩
    show W.heap[0]?=_
    rw [hh]
    obtain ⟨l⟩:=c
    have e2:l=exB:=e
    rw [e2]
  · cases hv0
def ok_22:Nat→Prop:=fun x:Nat=>x < 18446744073709551616
theorem O_22:Opens Tryz.prog 22 Kd.u64 ok_22:=opens_u64 Tryz.underlying22
def ok_3:Int→Prop:=fun x:Int => -9223372036854775808≤x∧x < 9223372036854775808
theorem O_3:Opens Tryz.prog 3 Kd.i64 ok_3:=opens_i64 Tryz.underlying3
instance:Inhabited T_api_Params:=⟨⟨default,default,default⟩⟩
def ok_24:T_api_Params→Prop:=fun x:T_api_Params=>ok_22 x.P∧ok_3 x.N∧ok_3 x.T
theorem O_24:Opens Tryz.prog 24 K_api_Params ok_24:=opens_struct (ok:=fun y:(Nat) × (Int) × (Int)=>ok_22 y.1∧ok_3 y.2.1∧ok_3 y.2.2) (f:=fun x:T_api_Params=>(x.P,x.N,x.T)) (fun a:(Nat) × (Int) × (Int)=>⟨a.1,a.2.1,a.2.2⟩) (fun _=>rfl) Tryz.underlying24 (by kernel_rfl) (opensF_cons (by kernel_rfl) O_22 (opensF_cons (by kernel_rfl) O_3 (opensF_one (by kernel_rfl) O_3) rfl) rfl)
def ok_25:List Int→Prop:=fun xs:List Int=>xs.length≤140737488355328∧∀ x ∈ xs,ok_3 x
theorem O_25:Opens Tryz.prog 25 (Kd.sl Kd.i64) ok_25:=opens_sl Tryz.underlying25 (by kernel_rfl) (by decide) (of_decide_eq_true (by kernel_rfl)) O_3
instance:Inhabited T_api_Deviation:=⟨⟨default,default,default,default,default,default,default,default⟩⟩
def ok_152:T_api_Deviation→Prop:=fun x:T_api_Deviation=>ok_3 x.Round∧ok_3 x.From∧ok_3 x.To∧ok_3 x.At∧ok_3 x.Kind∧ok_22 x.K∧ok_3 x.Of∧ok_3 x.SrcIndex
theorem O_152:Opens Tryz.prog 152 K_api_Deviation ok_152:=opens_struct (ok:=fun y:(Int) × (Int) × (Int) × (Int) × (Int) × (Nat) × (Int) × (Int)=>ok_3 y.1∧ok_3 y.2.1∧ok_3 y.2.2.1∧ok_3 y.2.2.2.1∧ok_3 y.2.2.2.2.1∧ok_22 y.2.2.2.2.2.1∧ok_3 y.2.2.2.2.2.2.1∧ok_3 y.2.2.2.2.2.2.2) (f:=fun x:T_api_Deviation=>(x.Round,x.From,x.To,x.At,x.Kind,x.K,x.Of,x.SrcIndex)) (fun a:(Int) × (Int) × (Int) × (Int) × (Int) × (Nat) × (Int) × (Int)=>⟨a.1,a.2.1,a.2.2.1,a.2.2.2.1,a.2.2.2.2.1,a.2.2.2.2.2.1,a.2.2.2.2.2.2.1,a.2.2.2.2.2.2.2⟩) (fun _=>rfl) Tryz.underlying152 (by kernel_rfl) (opensF_cons (by kernel_rfl) O_3 (opensF_cons (by kernel_rfl) O_3 (opensF_cons (by kernel_rfl) O_3 (opensF_cons (by kernel_rfl) O_3 (opensF_cons (by kernel_rfl) O_3 (opensF_cons (by kernel_rfl) O_22 (opensF_cons (by kernel_rfl) O_3 (opensF_one (by kernel_rfl) O_3) rfl) rfl) rfl) rfl) rfl) rfl) rfl)
def ok_26:List T_api_Deviation→Prop:=fun xs:List T_api_Deviation=>xs.length≤140737488355328∧∀ x ∈ xs,ok_152 x
theorem O_26:Opens Tryz.prog 26 (Kd.sl K_api_Deviation) ok_26:=opens_sl Tryz.underlying26 (by kernel_rfl) (by decide) (of_decide_eq_true (by kernel_rfl)) O_152
def ok_60:List Nat→Prop:=fun xs:List Nat=>xs.length≤140737488355328∧∀ x ∈ xs,ok_22 x
theorem O_60:Opens Tryz.prog 60 (Kd.sl Kd.u64) ok_60:=opens_sl Tryz.underlying60 (by kernel_rfl) (by decide) (of_decide_eq_true (by kernel_rfl)) O_22
def ok_27:List (List Nat)→Prop:=fun xs:List (List Nat)=>xs.length≤140737488355328∧∀ x ∈ xs,ok_60 x
theorem O_27:Opens Tryz.prog 27 (Kd.sl (Kd.sl Kd.u64)) ok_27:=opens_sl Tryz.underlying27 (by kernel_rfl) (by decide) (of_decide_eq_true (by kernel_rfl)) O_60
instance:Inhabited T_api_Scenario:=⟨⟨default,default,default,default⟩⟩
def ok_29:T_api_Scenario→Prop:=fun x:T_api_Scenario=>ok_24 x.S∧ok_25 x.Corrupt∧ok_26 x.Deviations∧ok_27 x.Tapes
theorem O_29:Opens Tryz.prog 29 K_api_Scenario ok_29:=opens_struct (ok:=fun y:(T_api_Params) × (List Int) × (List T_api_Deviation) × (List (List Nat))=>ok_24 y.1∧ok_25 y.2.1∧ok_26 y.2.2.1∧ok_27 y.2.2.2) (f:=fun x:T_api_Scenario=>(x.S,x.Corrupt,x.Deviations,x.Tapes)) (fun a:(T_api_Params) × (List Int) × (List T_api_Deviation) × (List (List Nat))=>⟨a.1,a.2.1,a.2.2.1,a.2.2.2⟩) (fun _=>rfl) Tryz.underlying29 (by kernel_rfl) (opensF_cons (by kernel_rfl) O_24 (opensF_cons (by kernel_rfl) O_25 (opensF_cons (by kernel_rfl) O_26 (opensF_one (by kernel_rfl) O_27) rfl) rfl) rfl)
def ok_30:List (List (List Nat))→Prop:=fun xs:List (List (List Nat))=>xs.length≤140737488355328∧∀ x ∈ xs,ok_27 x
theorem O_30:Opens Tryz.prog 30 (Kd.sl (Kd.sl (Kd.sl Kd.u64))) ok_30:=opens_sl Tryz.underlying30 (by kernel_rfl) (by decide) (of_decide_eq_true (by kernel_rfl)) O_27
instance:Inhabited T_privitylaw19_Play:=⟨⟨default,default⟩⟩
def ok_32:T_privitylaw19_Play→Prop:=fun x:T_privitylaw19_Play=>ok_29 x.W∧ok_30 x.Q
theorem O_32:Opens Tryz.prog 32 K_privitylaw19_Play ok_32:=opens_struct (ok:=fun y:(T_api_Scenario) × (List (List (List Nat)))=>ok_29 y.1∧ok_30 y.2) (f:=fun x:T_privitylaw19_Play=>(x.W,x.Q)) (fun a:(T_api_Scenario) × (List (List (List Nat)))=>⟨a.1,a.2⟩) (fun _=>rfl) Tryz.underlying32 (by kernel_rfl) (opensF_cons (by kernel_rfl) O_29 (opensF_one (by kernel_rfl) O_30) rfl)
def ok_5:Nat→Prop:=fun x:Nat=>x < 256
theorem O_5:Opens Tryz.prog 5 Kd.u8 ok_5:=opens_u8 Tryz.underlying5
instance:Inhabited T_privitylaw19_Moved:=⟨⟨default,default,default⟩⟩
def ok_79:T_privitylaw19_Moved→Prop:=fun x:T_privitylaw19_Moved=>ok_32 x.X∧ok_5 x.Dealer∧ok_22 x.D
theorem O_79:Opens Tryz.prog 79 K_privitylaw19_Moved ok_79:=opens_struct (ok:=fun y:(T_privitylaw19_Play) × (Nat) × (Nat)=>ok_32 y.1∧ok_5 y.2.1∧ok_22 y.2.2) (f:=fun x:T_privitylaw19_Moved=>(x.X,x.Dealer,x.D)) (fun a:(T_privitylaw19_Play) × (Nat) × (Nat)=>⟨a.1,a.2.1,a.2.2⟩) (fun _=>rfl) Tryz.underlying79 (by kernel_rfl) (opensF_cons (by kernel_rfl) O_32 (opensF_cons (by kernel_rfl) O_5 (opensF_one (by kernel_rfl) O_22) rfl) rfl)
set_option maxRecDepth 100000 in
theorem vSSPerfectSecrecy_lifted (os:Os) (started:os.Started) (H:Type) (enc:TypeId × Value→H) :
    ReturnsInHanded {} Tryz.checked os 9 .any (fun w args=>(Rows.vSSPerfectSecrecySpec.pre enc Tryz.prog Tryz.f9 [] false w args∧laidMetH Tryz.prog lay w)∧sizedMet enc Tryz.prog Tryz.f9 (OpenSpec.ofChange Rows.vSSPerfectSecrecySpec) false w args)
      (Rows.vSSPerfectSecrecySpec.post enc Tryz.prog Tryz.f9 false true false false):=by
  refine returnsInHanded_of_change_and (C:=Tryz.checked) (X:=fun w _=>laidMetH Tryz.prog lay w) (fun _ _ _ hh h=>h.of_heap hh) own started (by kernel_rfl) Tryz.func9
    (ChangeSpec.witness_shaped (enc:=enc) (C:=Tryz.checked) (os:=os) (X:=fun w _=>laidMetH Tryz.prog lay w) false (World.doorLaid Tryz.prog 400 os) #[.agg #[.int .u64 0,.int .i64 0,.int .i64 0,.slice none 0 0,.slice none 0 0,.slice none 0 0,.slice none 0 0,.int .u8 0,.int .u64 0]] 8 rfl (World.shaped_of_RefB (by kernel_rfl) (by kernel_rfl)) (by kernel_rfl) (by kernel_rfl) (by kernel_rfl) (door_met os _)) ?_
  intro W base args ds gs before hval0 hW _ hsz hL _
  have hval:∀ (j:Nat) t v,Tryz.f9.params[j]?=some t→args[j]?=some v→Value.okWide Tryz.prog W .any base t v:=hval0
  have hsz1:(DataW.weightsEach Tryz.prog (Tryz.f9.params.toList++[]) (ds++gs)).all (·≤reachBytes)=true:=hsz
  have hW':=hW
  obtain ⟨p,q,hA0,hV,rfl,hfz,hnd⟩:=hW
  have hA:DataW.TrodAll enc Tryz.prog W 0 (fun _=>true) true Tryz.f9.params.toList args.toList ds p:=hA0
  rw [Tryz.params9] at hA hval hsz1
  obtain ⟨v0,vs0,d0,ds0,p0,q0,hargs,rfl,rfl,h0,r0⟩:=trodAll_cons hA
  obtain ⟨rfl,rfl,rfl⟩:=trodAll_nil r0
  obtain rfl:args=#[v0]:=by cases args;simp_all
  obtain ⟨rfl,rfl⟩:=trodVars_none hV
  have k0:=h0
  have lt0:∀ x ∈ p0,x.block < W.heap.size:=by obtain ⟨m,hm⟩:=k0;exact DataW.trod_lt m _ _ _ hm
  obtain ⟨x0,g0,rfl,it0,ok0⟩:=arg_struct Tryz.underlying79 O_79 (hval 0 79 v0 rfl rfl) h0 (wok_each hsz1 0 79 d0 rfl rfl)
  have hlaw:=Pu.law_Secrecy x0 (fun x hx=>(ok0.1.1.2.2.1.2 x hx).2.2.2.2.2.1) ok0.2.1
  have hpre:∀ a ∈ ((K_privitylaw19_Moved.items x0 g0)++[frB 0 exB]),a.bs=[]∧a.q (allF W):=by
    intro a ha
    rcases List.mem_append.1 ha with ha | ha
    · exact it0 a ha
    · rw [List.mem_singleton] at ha;subst ha;exact ⟨rfl,exps_of_laid hL⟩
  refine (law_run (c_privitylaw19_VSSPerfectSecrecy hlaw) (fun v L h=>h.1) hpre).mono fun e W' ⟨he,bel⟩=>?_
  subst he
  exact ⟨_,rfl,_,_,_,[],_,[],hW',trodAll_mk1 (shut_bool Tryz.underlying4 _),(trodAll_cons_mk (Below.trod laidOut (by kernel_rfl) (of_decide_eq_true (by kernel_rfl)) k0 bel lt0) trodAll_mk0),rfl,bel.frame _,fun h=>by cases h⟩
theorem vSSPerfectSecrecy_q0:(fun (P:Program) (f:FuncId) (fn:Func) (s:ChangeSpec) (c:OpenClaim)=>(c.wf (OpenSpec.ofChange s):Bool)) Tryz.prog 9 Tryz.f9 Rows.vSSPerfectSecrecySpec Rows.vSSPerfectSecrecyRow=true:=by kernel_rfl
theorem vSSPerfectSecrecy_q3:(fun (P:Program) (f:FuncId) (fn:Func) (s:ChangeSpec) (c:OpenClaim)=>(fn.params.all (P.readableRec ·):Bool)) Tryz.prog 9 Tryz.f9 Rows.vSSPerfectSecrecySpec Rows.vSSPerfectSecrecyRow=true:=by kernel_rfl
theorem vSSPerfectSecrecy_q4:(fun (P:Program) (f:FuncId) (fn:Func) (s:ChangeSpec) (c:OpenClaim)=>(namedTie P c.named s.vars:Bool)) Tryz.prog 9 Tryz.f9 Rows.vSSPerfectSecrecySpec Rows.vSSPerfectSecrecyRow=true:=by kernel_rfl
theorem vSSPerfectSecrecy_q5:(fun (P:Program) (f:FuncId) (fn:Func) (s:ChangeSpec) (c:OpenClaim)=>((c.stops == []):Bool)) Tryz.prog 9 Tryz.f9 Rows.vSSPerfectSecrecySpec Rows.vSSPerfectSecrecyRow=true:=by kernel_rfl
theorem vSSPerfectSecrecy_q7:(fun (P:Program) (f:FuncId) (fn:Func) (s:ChangeSpec) (c:OpenClaim)=>((c.knobs == []):Bool)) Tryz.prog 9 Tryz.f9 Rows.vSSPerfectSecrecySpec Rows.vSSPerfectSecrecyRow=true:=by kernel_rfl
theorem vSSPerfectSecrecy_q9:(fun (P:Program) (f:FuncId) (fn:Func) (s:ChangeSpec) (c:OpenClaim)=>((c.inPlace == P.inPlace f):Bool)) Tryz.prog 9 Tryz.f9 Rows.vSSPerfectSecrecySpec Rows.vSSPerfectSecrecyRow=true:=by kernel_rfl
theorem vSSPerfectSecrecy_q10:(fun (P:Program) (f:FuncId) (fn:Func) (s:ChangeSpec) (c:OpenClaim)=>((c.unfollowed == P.unfollowed f):Bool)) Tryz.prog 9 Tryz.f9 Rows.vSSPerfectSecrecySpec Rows.vSSPerfectSecrecyRow=true:=by kernel_rfl
theorem vSSPerfectSecrecy_q11:(fun (P:Program) (f:FuncId) (fn:Func) (s:ChangeSpec) (c:OpenClaim)=>((c.recurses == P.recurses f):Bool)) Tryz.prog 9 Tryz.f9 Rows.vSSPerfectSecrecySpec Rows.vSSPerfectSecrecyRow=true:=by kernel_rfl
theorem vSSPerfectSecrecy_q12:(fun (P:Program) (f:FuncId) (fn:Func) (s:ChangeSpec) (c:OpenClaim)=>((c.named == P.varsNamed f):Bool)) Tryz.prog 9 Tryz.f9 Rows.vSSPerfectSecrecySpec Rows.vSSPerfectSecrecyRow=true:=by kernel_rfl
theorem vSSPerfectSecrecy_q13:(fun (P:Program) (f:FuncId) (fn:Func) (s:ChangeSpec) (c:OpenClaim)=>((c.maps == (fn.params.toList++s.plain.varTypes P).any (P.mapsRec ·)):Bool)) Tryz.prog 9 Tryz.f9 Rows.vSSPerfectSecrecySpec Rows.vSSPerfectSecrecyRow=true:=by kernel_rfl
theorem vSSPerfectSecrecy_q14:(fun (P:Program) (f:FuncId) (fn:Func) (s:ChangeSpec) (c:OpenClaim)=>((c.ifaces == (fn.params.toList++s.plain.varTypes P).any (P.ifacesRec ·)):Bool)) Tryz.prog 9 Tryz.f9 Rows.vSSPerfectSecrecySpec Rows.vSSPerfectSecrecyRow=true:=by kernel_rfl
theorem vSSPerfectSecrecy_q15:(fun (P:Program) (f:FuncId) (fn:Func) (s:ChangeSpec) (c:OpenClaim)=>((c.mapsOut == P.mapsAmong fn.resultTypes.toList):Bool)) Tryz.prog 9 Tryz.f9 Rows.vSSPerfectSecrecySpec Rows.vSSPerfectSecrecyRow=true:=by kernel_rfl
theorem vSSPerfectSecrecy_q16:(fun (P:Program) (f:FuncId) (fn:Func) (s:ChangeSpec) (c:OpenClaim)=>((c.loops == (fn.params.toList++s.plain.varTypes P).any (P.loopsFrom ·)):Bool)) Tryz.prog 9 Tryz.f9 Rows.vSSPerfectSecrecySpec Rows.vSSPerfectSecrecyRow=true:=by kernel_rfl
theorem vSSPerfectSecrecy_q17:(fun (P:Program) (f:FuncId) (fn:Func) (s:ChangeSpec) (c:OpenClaim)=>((c.wideKeys == (fn.params.toList++s.plain.varTypes P++fn.resultTypes.toList).any (P.wideKeysFrom ·)):Bool)) Tryz.prog 9 Tryz.f9 Rows.vSSPerfectSecrecySpec Rows.vSSPerfectSecrecyRow=true:=by kernel_rfl
theorem vSSPerfectSecrecy_q18:(fun (P:Program) (f:FuncId) (fn:Func) (s:ChangeSpec) (c:OpenClaim)=>(s.vars.all (P.varReadable ·):Bool)) Tryz.prog 9 Tryz.f9 Rows.vSSPerfectSecrecySpec Rows.vSSPerfectSecrecyRow=true:=by kernel_rfl
theorem vSSPerfectSecrecy_q19:(fun (P:Program) (f:FuncId) (fn:Func) (s:ChangeSpec) (c:OpenClaim)=>(fn.resultTypes.all (fun t=>P.readableRec t && decide (t < P.types.size)):Bool)) Tryz.prog 9 Tryz.f9 Rows.vSSPerfectSecrecySpec Rows.vSSPerfectSecrecyRow=true:=by kernel_rfl
theorem vSSPerfectSecrecy_q20:(fun (P:Program) (f:FuncId) (fn:Func) (s:ChangeSpec) (c:OpenClaim)=>((c.ifacesOut == fn.resultTypes.toList.any (P.ifacesRec ·)):Bool)) Tryz.prog 9 Tryz.f9 Rows.vSSPerfectSecrecySpec Rows.vSSPerfectSecrecyRow=true:=by kernel_rfl
theorem vSSPerfectSecrecy_q21:(fun (P:Program) (f:FuncId) (fn:Func) (s:ChangeSpec) (c:OpenClaim)=>((c.loopsOut == fn.resultTypes.toList.any (P.loopsFrom ·)):Bool)) Tryz.prog 9 Tryz.f9 Rows.vSSPerfectSecrecySpec Rows.vSSPerfectSecrecyRow=true:=by kernel_rfl
theorem vSSPerfectSecrecy_q22:(fun (P:Program) (f:FuncId) (fn:Func) (s:ChangeSpec) (c:OpenClaim)=>((c.plainKeys == P.plainKeys):Bool)) Tryz.prog 9 Tryz.f9 Rows.vSSPerfectSecrecySpec Rows.vSSPerfectSecrecyRow=true:=by kernel_rfl
theorem vSSPerfectSecrecy_q23:(fun (P:Program) (f:FuncId) (fn:Func) (s:ChangeSpec) (c:OpenClaim)=>(c.shortTexts.isNone:Bool)) Tryz.prog 9 Tryz.f9 Rows.vSSPerfectSecrecySpec Rows.vSSPerfectSecrecyRow=true:=by kernel_rfl
theorem vSSPerfectSecrecy_q28:(fun (P:Program) (f:FuncId) (fn:Func) (s:ChangeSpec) (c:OpenClaim)=>((c.kinds == (if c.domain.isEmpty then [] else fn.params.toList.map fun t=>match P.underlying t with | some (.int k)=>some k | _=>none)):Bool)) Tryz.prog 9 Tryz.f9 Rows.vSSPerfectSecrecySpec Rows.vSSPerfectSecrecyRow=true:=by kernel_rfl
theorem vSSPerfectSecrecy_q29:(fun (P:Program) (f:FuncId) (fn:Func) (s:ChangeSpec) (c:OpenClaim)=>((c.pinned == c.pinnedBy):Bool)) Tryz.prog 9 Tryz.f9 Rows.vSSPerfectSecrecySpec Rows.vSSPerfectSecrecyRow=true:=by kernel_rfl
theorem vSSPerfectSecrecy_q30:(fun (P:Program) (f:FuncId) (fn:Func) (s:ChangeSpec) (c:OpenClaim)=>((c.veiled == (fn.params.toList++s.plain.varTypes P++fn.resultTypes.toList).any (P.veiledRec ·)):Bool)) Tryz.prog 9 Tryz.f9 Rows.vSSPerfectSecrecySpec Rows.vSSPerfectSecrecyRow=true:=by kernel_rfl
theorem vSSPerfectSecrecy_q31:(fun (P:Program) (f:FuncId) (fn:Func) (s:ChangeSpec) (c:OpenClaim)=>(c.veiledFits P fn.params.toList (fn.params.toList++s.plain.varTypes P++fn.resultTypes.toList):Bool)) Tryz.prog 9 Tryz.f9 Rows.vSSPerfectSecrecySpec Rows.vSSPerfectSecrecyRow=true:=by kernel_rfl
set_option maxRecDepth 100000 in
theorem vSSPerfectSecrecy_closed:joinedFacts Tryz.prog 9 Tryz.f9 Rows.vSSPerfectSecrecySpec Rows.vSSPerfectSecrecyRow=true:=(ba (ba (ba (ba (ba (ba (ba (ba (ba (ba (ba (ba (ba (ba (ba (ba (ba (ba (ba (ba (ba (ba (ba (ba (ba (ba (ba (ba (ba (ba (ba vSSPerfectSecrecy_q0 pf1) pf2) vSSPerfectSecrecy_q3) vSSPerfectSecrecy_q4) vSSPerfectSecrecy_q5) pf6) vSSPerfectSecrecy_q7) pf8) vSSPerfectSecrecy_q9) vSSPerfectSecrecy_q10) vSSPerfectSecrecy_q11) vSSPerfectSecrecy_q12) vSSPerfectSecrecy_q13) vSSPerfectSecrecy_q14) vSSPerfectSecrecy_q15) vSSPerfectSecrecy_q16) vSSPerfectSecrecy_q17) vSSPerfectSecrecy_q18) vSSPerfectSecrecy_q19) vSSPerfectSecrecy_q20) vSSPerfectSecrecy_q21) vSSPerfectSecrecy_q22) vSSPerfectSecrecy_q23) pf24) pf25) pf_lift) pf_make) vSSPerfectSecrecy_q28) vSSPerfectSecrecy_q29) vSSPerfectSecrecy_q30) vSSPerfectSecrecy_q31)
theorem vSSPerfectSecrecy_goes:false=Rows.vSSPerfectSecrecyRow.goesBy Tryz.prog:=by kernel_rfl
theorem vSSPerfectSecrecy_wf:Rows.vSSPerfectSecrecyRow.wfByText (OpenSpec.ofChange Rows.vSSPerfectSecrecySpec)=true:=by kernel_rfl
theorem vSSPerfectSecrecy_row:Rows.VSSPerfectSecrecySaid :=
  OpenClaim.holds_of_wide 9 Tryz.f9 rfl rfl rfl rfl rfl rfl rfl ⟨rfl,rfl,rfl,rfl,rfl⟩ rfl rfl rfl rfl rfl (by kernel_rfl) Tryz.func9 vSSPerfectSecrecy_closed
    (of_decide_eq_true (by kernel_rfl)) (by unfold Func.isWrapper;first | (rw [if_pos (by decide +kernel)];kernel_rfl) | (rw [if_neg (by decide +kernel)];exact ⟨rfl,rfl⟩))
    (fun os started H enc _=>vSSPerfectSecrecy_lifted os started H enc)
theorem vSSPerfectSecrecy_holds:Rows.VSSPerfectSecrecyCardSaid :=
  Claim7.holds_tied_plain_at .later [] [.data] true (true, "54a06071e2c9ac4a59bf004b097d9bd6aae4a5a0dce0adb63097aaa15ca4d18f") false
    vSSPerfectSecrecy_row (fun _ h=>by cases h) vSSPerfectSecrecy_wf (fun _ h=>by cases h) vSSPerfectSecrecy_row_tie rfl ⟨rfl,rfl⟩ pf_main rfl
    (fun f fn hf hfn=>by
      obtain rfl : f = 9 := Option.some.inj ((show Tryz.prog.funcNamed "privity/privitylaw19.VSSPerfectSecrecy" = some 9 by kernel_rfl).symm.trans hf) |>.symm
      obtain rfl:fn=Tryz.f9:=(Option.some.inj (Tryz.func9.symm.trans hfn)).symm
      exact ⟨pf_looks,fun j t ht=>by
        rw [Tryz.params9] at ht
        have hm:t ∈ [79]:=by simpa using Array.mem_of_getElem? ht
        have hall:([79].all fun u=>!Tryz.prog.wantsStandIn u)=true:=by kernel_rfl
        exact (show Tryz.prog.wantsStandIn t=false by simpa using List.all_eq_true.1 hall t hm)⟩)
    vSSPerfectSecrecy_goes
#print axioms vSSPerfectSecrecy_holds
end Go.Proofs.YtahofpgjianhdaaGreatDoor
