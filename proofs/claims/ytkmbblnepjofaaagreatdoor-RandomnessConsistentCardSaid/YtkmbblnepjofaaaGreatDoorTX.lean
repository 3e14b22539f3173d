/- The honest rows of each random number belong to one symmetric polynomial in every scenario. No conditions beyond those of the statement. -/
import Derived.Test.YtkmbblnepjofaaaGreatDoorRn
import Derived.Test.YtkmbblnepjofaaaGreatDoorNFc3
import Derived.Test.YtkmbblnepjofaaaGreatDoorTp3
import Derived.Test.YtkmbblnepjofaaaGreatDoorCards
import Derived.Test.YtkmbblnepjofaaaGreatDoorTie
import Derived.Test.YtkmbblnepjofaaaGreatDoorTp2
import Derived.Test.YtkmbblnepjofaaaGreatDoorTf
import Derived.Test.YtkmbblnepjofaaaGreatDoorTg
import Derived.Test.YtkmbblnepjofaaaGreatDoorTh
import Derived.SevenTiedAt
import Derived.ProofKit
import Derived.LaidMore
import Derived.OpenShut
import Derived.Stop.Joined
set_option linter.unusedVariables false
namespace Go.Proofs.YtkmbblnepjofaaaGreatDoor
open Go Gv Gw Pu Go.ChangeShapes Go.WideShapes Go.ChangeAt Go.RowKit Go.Deep
theorem own:ownKnob Tryz.prog.godebug=none:=by kernel_rfl
theorem laidOut:laidOutB Tryz.prog=true:=by kernel_rfl
abbrev lay : List (String × DataW Unit) := [("privity/field.exps", Rows.laid_privity_field_exps)]
abbrev JR:List Value:=[.int .i64 ((5:Nat):Int),.int .i64 ((7:Nat):Int),.int .i64 ((13:Nat):Int),.int .i64 ((17:Nat):Int),.int .i64 ((19:Nat):Int),.int .i64 ((31:Nat):Int),.int .i64 ((61:Nat):Int)]
theorem FN : Tryz.prog.globalNamed "privity/field.exps" = some 0 := by kernel_rfl
theorem IR:(Tryz.prog.globals[0]?).map (·.type)=some 278:=by kernel_rfl
theorem AV (os:Os) (args:Array Value):laidMetH Tryz.prog lay ((World.doorLaid Tryz.prog 400 os).forCall (fun _ _=>0) ⟨#[],args,[]⟩).memory :=
  laidMetH_of_parts3 (fuel:=8) (laidMet_of_run' 8 (by kernel_rfl) (by kernel_rfl)) (by kernel_rfl) (by kernel_rfl)
theorem vE {W:World} (h:laidMetH Tryz.prog lay W):(Jz 0 JR).q (tf W):=by
  rw [MakeChecks.laidMetH_plain _ _ _ (by kernel_rfl)] at h
  obtain ⟨ps,⟨g0,t0,cs0,f0,p0,q0,hg0,ht0,hv0,hd0,_,_⟩,_,_⟩:=h
  obtain rfl:=Option.some.inj (FN.symm.trans hg0)
  obtain rfl:=Option.some.inj (IR.symm.trans ht0)
  have e:=AE (zs:=[5,7,13,17,19,31,61]) Tryz.underlying278 Tryz.underlying3 (by kernel_rfl) (by kernel_rfl) hd0
  simp only [World.var?,FN,Option.bind_some] at hv0
  split at hv0
  · next c e1 f1 hh =>
    have hc:=Option.some.inj hv0
    subst hc
    have hlt:0 < W.heap.size:=by
      rcases Nat.eq_zero_or_pos W.heap.size with z | z
      · rw [Array.getElem?_eq_none (by omega)] at hh;cases hh
      · exact z
    refine ⟨hlt,e1,f1,?_⟩
    show W.heap[0]?=_
    rw [hh]
    obtain ⟨l⟩:=c
    have e2:l=JR:=e
    rw [e2]
  · cases hv0
def u5:Nat→Prop:=fun x:Nat=>x < 18446744073709551616
theorem Ga:lR Tryz.prog 22 Kd.u64 u5:=z6 Tryz.underlying22
def oE:Int→Prop:=fun x:Int => -9223372036854775808≤x∧x < 9223372036854775808
theorem CK:lR Tryz.prog 3 Kd.i64 oE:=z5 Tryz.underlying3
instance:Inhabited aH:=⟨⟨default,default,default⟩⟩
def BP:aH→Prop:=fun x:aH=>u5 x.P∧oE x.N∧oE x.T
theorem JH:lR Tryz.prog 24 rH BP:=pj (ok:=fun y:(Nat) × (Int) × (Int)=>u5 y.1∧oE y.2.1∧oE y.2.2) (f:=fun x:aH=>(x.P,x.N,x.T)) (fun a:(Nat) × (Int) × (Int)=>⟨a.1,a.2.1,a.2.2⟩) (fun _=>rfl) Tryz.underlying24 (by kernel_rfl) (eQ (by kernel_rfl) Ga (eQ (by kernel_rfl) CK (rx (by kernel_rfl) CK) rfl) rfl)
def BQ:List Int→Prop:=fun xs:List Int=>xs.length≤140737488355328∧∀ x ∈ xs,oE x
theorem JI:lR Tryz.prog 25 (Kd.sl Kd.i64) BQ:=sa Tryz.underlying25 (by kernel_rfl) (by decide) (of_decide_eq_true (by kernel_rfl)) CK
instance:Inhabited aM:=⟨⟨default,default,default,default,default,default,default,default⟩⟩
def BO:aM→Prop:=fun x:aM=>oE x.Round∧oE x.From∧oE x.To∧oE x.At∧oE x.Kind∧u5 x.K∧oE x.Of∧oE x.bi
theorem HZ:lR Tryz.prog 151 i7 BO:=pj (ok:=fun y:(Int) × (Int) × (Int) × (Int) × (Int) × (Nat) × (Int) × (Int)=>oE y.1∧oE y.2.1∧oE y.2.2.1∧oE y.2.2.2.1∧oE y.2.2.2.2.1∧u5 y.2.2.2.2.2.1∧oE y.2.2.2.2.2.2.1∧oE y.2.2.2.2.2.2.2) (f:=fun x:aM=>(x.Round,x.From,x.To,x.At,x.Kind,x.K,x.Of,x.bi)) (fun a:(Int) × (Int) × (Int) × (Int) × (Int) × (Nat) × (Int) × (Int)=>⟨a.1,a.2.1,a.2.2.1,a.2.2.2.1,a.2.2.2.2.1,a.2.2.2.2.2.1,a.2.2.2.2.2.2.1,a.2.2.2.2.2.2.2⟩) (fun _=>rfl) Tryz.underlying151 (by kernel_rfl) (eQ (by kernel_rfl) CK (eQ (by kernel_rfl) CK (eQ (by kernel_rfl) CK (eQ (by kernel_rfl) CK (eQ (by kernel_rfl) CK (eQ (by kernel_rfl) Ga (eQ (by kernel_rfl) CK (rx (by kernel_rfl) CK) rfl) rfl) rfl) rfl) rfl) rfl) rfl)
def BR:List aM→Prop:=fun xs:List aM=>xs.length≤140737488355328∧∀ x ∈ xs,BO x
theorem JJ:lR Tryz.prog 26 (Kd.sl i7) BR:=sa Tryz.underlying26 (by kernel_rfl) (by decide) (of_decide_eq_true (by kernel_rfl)) HZ
def FT:List Nat→Prop:=fun xs:List Nat=>xs.length≤140737488355328∧∀ x ∈ xs,u5 x
theorem JM:lR Tryz.prog 42 (Kd.sl Kd.u64) FT:=sa Tryz.underlying42 (by kernel_rfl) (by decide) (of_decide_eq_true (by kernel_rfl)) Ga
def BS:List (List Nat)→Prop:=fun xs:List (List Nat)=>xs.length≤140737488355328∧∀ x ∈ xs,FT x
theorem JK:lR Tryz.prog 27 (Kd.sl (Kd.sl Kd.u64)) BS:=sa Tryz.underlying27 (by kernel_rfl) (by decide) (of_decide_eq_true (by kernel_rfl)) JM
instance:Inhabited ab:=⟨⟨default,default,default,default⟩⟩
def Iq:ab→Prop:=fun x:ab=>BP x.S∧BQ x.af∧BR x.aa∧BS x.ax
theorem JL:lR Tryz.prog 29 pX Iq:=pj (ok:=fun y:(aH) × (List Int) × (List aM) × (List (List Nat))=>BP y.1∧BQ y.2.1∧BR y.2.2.1∧BS y.2.2.2) (f:=fun x:ab=>(x.S,x.af,x.aa,x.ax)) (fun a:(aH) × (List Int) × (List aM) × (List (List Nat))=>⟨a.1,a.2.1,a.2.2.1,a.2.2.2⟩) (fun _=>rfl) Tryz.underlying29 (by kernel_rfl) (eQ (by kernel_rfl) JH (eQ (by kernel_rfl) JI (eQ (by kernel_rfl) JJ (rx (by kernel_rfl) JK) rfl) rfl) rfl)
set_option maxRecDepth 100000 in
theorem mJ (os:Os) (started:os.Started) (H:Type) (enc:TypeId × Value→H) :
    ReturnsInHanded {} Tryz.checked os 3 .any (fun w args=>(Rows.randomnessConsistentSpec.pre enc Tryz.prog Tryz.f3 [] false w args∧laidMetH Tryz.prog lay w)∧sizedMet enc Tryz.prog Tryz.f3 (OpenSpec.ofChange Rows.randomnessConsistentSpec) false w args)
      (Rows.randomnessConsistentSpec.post enc Tryz.prog Tryz.f3 false true false false):=by
  refine returnsInHanded_of_change_and (C:=Tryz.checked) (X:=fun w _=>laidMetH Tryz.prog lay w) (fun _ _ _ hh h=>h.of_heap hh) own started (by kernel_rfl) Tryz.func3
    (ChangeSpec.witness_shaped (enc:=enc) (C:=Tryz.checked) (os:=os) (X:=fun w _=>laidMetH Tryz.prog lay w) false (World.doorLaid Tryz.prog 400 os) #[.agg #[.int .u64 0,.int .i64 0,.int .i64 0,.slice none 0 0,.slice none 0 0,.slice none 0 0],.int .i64 0] 8 rfl (World.shaped_of_RefB (by kernel_rfl) (by kernel_rfl)) (by kernel_rfl) (by kernel_rfl) (by kernel_rfl) (AV os _)) ?_
  intro W base args ds gs before hval0 hW _ hsz hL _
  have hval:∀ (j:Nat) t v,Tryz.f3.params[j]?=some t→args[j]?=some v→Value.okWide Tryz.prog W .any base t v:=hval0
  have hsz1:(DataW.weightsEach Tryz.prog (Tryz.f3.params.toList++[]) (ds++gs)).all (·≤reachBytes)=true:=hsz
  have hW':=hW
  obtain ⟨p,q,hA0,hV,rfl,hfz,hnd⟩:=hW
  have hA:DataW.TrodAll enc Tryz.prog W 0 (fun _=>true) true Tryz.f3.params.toList args.toList ds p:=hA0
  rw [Tryz.params3] at hA hval hsz1
  obtain ⟨v0,vs0,d0,ds0,p0,q0,hargs,rfl,rfl,h0,r0⟩:=trodAll_cons hA
  obtain ⟨v1,vs1,d1,ds1,p1,q1,rfl,rfl,rfl,h1,r1⟩:=trodAll_cons r0
  obtain ⟨rfl,rfl,rfl⟩:=trodAll_nil r1
  obtain rfl:args=#[v0,v1]:=by cases args;simp_all
  obtain ⟨rfl,rfl⟩:=trodVars_none hV
  have k0:=h0
  have lt0:∀ x ∈ p0,x.block < W.heap.size:=by obtain ⟨m,hm⟩:=k0;exact DataW.trod_lt m _ _ _ hm
  have k1:=h1
  have lt1:∀ x ∈ p1,x.block < W.heap.size:=by obtain ⟨m,hm⟩:=k1;exact DataW.trod_lt m _ _ _ hm
  obtain ⟨x0,g0,rfl,iO,ok0⟩:=xA Tryz.underlying29 JL (hval 0 29 v0 rfl rfl) h0 (uH hsz1 0 29 d0 rfl rfl)
  obtain ⟨x1,rfl,ok1⟩:=CW Tryz.underlying3 (hval 1 3 v1 rfl rfl) h1
  have hlaw:=Pu.ui x0 x1 (fun x hx=>(ok0.2.2.1.2 x hx).2.2.2.2.2.1)
  have hpre:∀ a ∈ ((pX.items x0 g0)++[Jz 0 JR]),a.bs=[]∧a.q (tf W):=by
    intro a ha
    rcases List.mem_append.1 ha with ha | ha
    · exact iO a ha
    · rw [List.mem_singleton] at ha;subst ha;exact ⟨rfl,vE hL⟩
  refine (EO (kh hlaw) (fun v L h=>h.1) hpre).mono fun e W' ⟨he,bel⟩=>?_
  subst he
  exact ⟨_,rfl,_,_,_,[],_,[],hW',trodAll_mk1 (shut_bool Tryz.underlying4 _),(trodAll_cons_mk (Below.trod laidOut (by kernel_rfl) (of_decide_eq_true (by kernel_rfl)) k0 bel lt0) (trodAll_cons_mk (Below.trod laidOut (by kernel_rfl) (of_decide_eq_true (by kernel_rfl)) k1 bel lt1) trodAll_mk0)),rfl,bel.frame _,fun h=>by cases h⟩
theorem oI:(fun (P:Program) (f:FuncId) (fn:Func) (s:ChangeSpec) (c:OpenClaim)=>(c.wf (OpenSpec.ofChange s):Bool)) Tryz.prog 3 Tryz.f3 Rows.randomnessConsistentSpec Rows.randomnessConsistentRow=true:=by kernel_rfl
theorem oJ:(fun (P:Program) (f:FuncId) (fn:Func) (s:ChangeSpec) (c:OpenClaim)=>(fn.params.all (P.readableRec ·):Bool)) Tryz.prog 3 Tryz.f3 Rows.randomnessConsistentSpec Rows.randomnessConsistentRow=true:=by kernel_rfl
theorem oK:(fun (P:Program) (f:FuncId) (fn:Func) (s:ChangeSpec) (c:OpenClaim)=>(namedTie P c.named s.vars:Bool)) Tryz.prog 3 Tryz.f3 Rows.randomnessConsistentSpec Rows.randomnessConsistentRow=true:=by kernel_rfl
theorem oL:(fun (P:Program) (f:FuncId) (fn:Func) (s:ChangeSpec) (c:OpenClaim)=>((c.stops == []):Bool)) Tryz.prog 3 Tryz.f3 Rows.randomnessConsistentSpec Rows.randomnessConsistentRow=true:=by kernel_rfl
theorem oM:(fun (P:Program) (f:FuncId) (fn:Func) (s:ChangeSpec) (c:OpenClaim)=>((c.knobs == []):Bool)) Tryz.prog 3 Tryz.f3 Rows.randomnessConsistentSpec Rows.randomnessConsistentRow=true:=by kernel_rfl
theorem oO:(fun (P:Program) (f:FuncId) (fn:Func) (s:ChangeSpec) (c:OpenClaim)=>((c.inPlace == P.inPlace f):Bool)) Tryz.prog 3 Tryz.f3 Rows.randomnessConsistentSpec Rows.randomnessConsistentRow=true:=by kernel_rfl
theorem nN:(fun (P:Program) (f:FuncId) (fn:Func) (s:ChangeSpec) (c:OpenClaim)=>((c.unfollowed == P.unfollowed f):Bool)) Tryz.prog 3 Tryz.f3 Rows.randomnessConsistentSpec Rows.randomnessConsistentRow=true:=by kernel_rfl
theorem nP:(fun (P:Program) (f:FuncId) (fn:Func) (s:ChangeSpec) (c:OpenClaim)=>((c.recurses == P.recurses f):Bool)) Tryz.prog 3 Tryz.f3 Rows.randomnessConsistentSpec Rows.randomnessConsistentRow=true:=by kernel_rfl
theorem nQ:(fun (P:Program) (f:FuncId) (fn:Func) (s:ChangeSpec) (c:OpenClaim)=>((c.named == P.varsNamed f):Bool)) Tryz.prog 3 Tryz.f3 Rows.randomnessConsistentSpec Rows.randomnessConsistentRow=true:=by kernel_rfl
theorem nR:(fun (P:Program) (f:FuncId) (fn:Func) (s:ChangeSpec) (c:OpenClaim)=>((c.maps == (fn.params.toList++s.plain.varTypes P).any (P.mapsRec ·)):Bool)) Tryz.prog 3 Tryz.f3 Rows.randomnessConsistentSpec Rows.randomnessConsistentRow=true:=by kernel_rfl
theorem nS:(fun (P:Program) (f:FuncId) (fn:Func) (s:ChangeSpec) (c:OpenClaim)=>((c.ifaces == (fn.params.toList++s.plain.varTypes P).any (P.ifacesRec ·)):Bool)) Tryz.prog 3 Tryz.f3 Rows.randomnessConsistentSpec Rows.randomnessConsistentRow=true:=by kernel_rfl
theorem nU:(fun (P:Program) (f:FuncId) (fn:Func) (s:ChangeSpec) (c:OpenClaim)=>((c.mapsOut == P.mapsAmong fn.resultTypes.toList):Bool)) Tryz.prog 3 Tryz.f3 Rows.randomnessConsistentSpec Rows.randomnessConsistentRow=true:=by kernel_rfl
theorem nW:(fun (P:Program) (f:FuncId) (fn:Func) (s:ChangeSpec) (c:OpenClaim)=>((c.loops == (fn.params.toList++s.plain.varTypes P).any (P.loopsFrom ·)):Bool)) Tryz.prog 3 Tryz.f3 Rows.randomnessConsistentSpec Rows.randomnessConsistentRow=true:=by kernel_rfl
theorem nX:(fun (P:Program) (f:FuncId) (fn:Func) (s:ChangeSpec) (c:OpenClaim)=>((c.wideKeys == (fn.params.toList++s.plain.varTypes P++fn.resultTypes.toList).any (P.wideKeysFrom ·)):Bool)) Tryz.prog 3 Tryz.f3 Rows.randomnessConsistentSpec Rows.randomnessConsistentRow=true:=by kernel_rfl
theorem nY:(fun (P:Program) (f:FuncId) (fn:Func) (s:ChangeSpec) (c:OpenClaim)=>(s.vars.all (P.varReadable ·):Bool)) Tryz.prog 3 Tryz.f3 Rows.randomnessConsistentSpec Rows.randomnessConsistentRow=true:=by kernel_rfl
theorem nZ:(fun (P:Program) (f:FuncId) (fn:Func) (s:ChangeSpec) (c:OpenClaim)=>(fn.resultTypes.all (fun t=>P.readableRec t && decide (t < P.types.size)):Bool)) Tryz.prog 3 Tryz.f3 Rows.randomnessConsistentSpec Rows.randomnessConsistentRow=true:=by kernel_rfl
theorem n0:(fun (P:Program) (f:FuncId) (fn:Func) (s:ChangeSpec) (c:OpenClaim)=>((c.ifacesOut == fn.resultTypes.toList.any (P.ifacesRec ·)):Bool)) Tryz.prog 3 Tryz.f3 Rows.randomnessConsistentSpec Rows.randomnessConsistentRow=true:=by kernel_rfl
theorem n1:(fun (P:Program) (f:FuncId) (fn:Func) (s:ChangeSpec) (c:OpenClaim)=>((c.loopsOut == fn.resultTypes.toList.any (P.loopsFrom ·)):Bool)) Tryz.prog 3 Tryz.f3 Rows.randomnessConsistentSpec Rows.randomnessConsistentRow=true:=by kernel_rfl
theorem n2:(fun (P:Program) (f:FuncId) (fn:Func) (s:ChangeSpec) (c:OpenClaim)=>((c.plainKeys == P.plainKeys):Bool)) Tryz.prog 3 Tryz.f3 Rows.randomnessConsistentSpec Rows.randomnessConsistentRow=true:=by kernel_rfl
theorem n3:(fun (P:Program) (f:FuncId) (fn:Func) (s:ChangeSpec) (c:OpenClaim)=>(c.shortTexts.isNone:Bool)) Tryz.prog 3 Tryz.f3 Rows.randomnessConsistentSpec Rows.randomnessConsistentRow=true:=by kernel_rfl
theorem oa:(fun (P:Program) (f:FuncId) (fn:Func) (s:ChangeSpec) (c:OpenClaim)=>((c.kinds == (if c.domain.isEmpty then [] else fn.params.toList.map fun t=>match P.underlying t with | some (.int k)=>some k | _=>none)):Bool)) Tryz.prog 3 Tryz.f3 Rows.randomnessConsistentSpec Rows.randomnessConsistentRow=true:=by kernel_rfl
theorem oc:(fun (P:Program) (f:FuncId) (fn:Func) (s:ChangeSpec) (c:OpenClaim)=>((c.pinned == c.pinnedBy):Bool)) Tryz.prog 3 Tryz.f3 Rows.randomnessConsistentSpec Rows.randomnessConsistentRow=true:=by kernel_rfl
theorem od:(fun (P:Program) (f:FuncId) (fn:Func) (s:ChangeSpec) (c:OpenClaim)=>((c.veiled == (fn.params.toList++s.plain.varTypes P++fn.resultTypes.toList).any (P.veiledRec ·)):Bool)) Tryz.prog 3 Tryz.f3 Rows.randomnessConsistentSpec Rows.randomnessConsistentRow=true:=by kernel_rfl
theorem oe:(fun (P:Program) (f:FuncId) (fn:Func) (s:ChangeSpec) (c:OpenClaim)=>(c.veiledFits P fn.params.toList (fn.params.toList++s.plain.varTypes P++fn.resultTypes.toList):Bool)) Tryz.prog 3 Tryz.f3 Rows.randomnessConsistentSpec Rows.randomnessConsistentRow=true:=by kernel_rfl
set_option maxRecDepth 100000 in
theorem mI:joinedFacts Tryz.prog 3 Tryz.f3 Rows.randomnessConsistentSpec Rows.randomnessConsistentRow=true:=(ba (ba (ba (ba (ba (ba (ba (ba (ba (ba (ba (ba (ba (ba (ba (ba (ba (ba (ba (ba (ba (ba (ba (ba (ba (ba (ba (ba (ba (ba (ba oI KS) KT) oJ) oK) oL) KU) oM) KV) oO) nN) nP) nQ) nR) nS) nU) nW) nX) nY) nZ) n0) n1) n2) n3) J8) J9) E0) E3) oa) oc) od) oe)
theorem ng:false=Rows.randomnessConsistentRow.goesBy Tryz.prog:=by kernel_rfl
theorem oP:Rows.randomnessConsistentRow.wfByText (OpenSpec.ofChange Rows.randomnessConsistentSpec)=true:=by kernel_rfl
theorem og:Rows.RandomnessConsistentSaid :=
  OpenClaim.holds_of_wide 3 Tryz.f3 rfl rfl rfl rfl rfl rfl rfl ⟨rfl,rfl,rfl,rfl,rfl⟩ rfl rfl rfl rfl rfl (by kernel_rfl) Tryz.func3 mI
    (of_decide_eq_true (by kernel_rfl)) (by unfold Func.isWrapper;first | (rw [if_pos (by decide +kernel)];kernel_rfl) | (rw [if_neg (by decide +kernel)];exact ⟨rfl,rfl⟩))
    (fun os started H enc _=>mJ os started H enc)
theorem randomnessConsistent_holds:Rows.RandomnessConsistentCardSaid :=
  Claim7.holds_tied_plain_at .later [] [.data] true (true, "00ae26d82973f8a5081b5b0fd7e1a56d18a2d4d51fce708aed4c10fa7199e597") false
    og (fun _ h=>by cases h) oP (fun _ h=>by cases h) randomnessConsistent_row_tie rfl ⟨rfl,rfl⟩ E2 rfl
    (fun f fn hf hfn=>by
      obtain rfl : f = 3 := Option.some.inj ((show Tryz.prog.funcNamed "privity/privitylaw24.RandomnessConsistent" = some 3 by kernel_rfl).symm.trans hf) |>.symm
      obtain rfl:fn=Tryz.f3:=(Option.some.inj (Tryz.func3.symm.trans hfn)).symm
      exact ⟨B0,fun j t ht=>by
        rw [Tryz.params3] at ht
        have hm:t ∈ [29,3]:=by simpa using Array.mem_of_getElem? ht
        have hall:([29,3].all fun u=>!Tryz.prog.wantsStandIn u)=true:=by kernel_rfl
        exact (show Tryz.prog.wantsStandIn t=false by simpa using List.all_eq_true.1 hall t hm)⟩)
    ng
#print axioms randomnessConsistent_holds
end Go.Proofs.YtkmbblnepjofaaaGreatDoor
