/- Every dealer uses exactly the words of its tape that the length says, and no round takes place if no triple is wanted. -/
import Derived.Test.YtpjenmchinpgaaaGreatDoorRu
import Derived.Test.YtpjenmchinpgaaaGreatDoorUAc4
import Derived.Test.YtpjenmchinpgaaaGreatDoorTp3
import Derived.Test.YtpjenmchinpgaaaGreatDoorCards
import Derived.Test.YtpjenmchinpgaaaGreatDoorTie
import Derived.Test.YtpjenmchinpgaaaGreatDoorTp2
import Derived.Test.YtpjenmchinpgaaaGreatDoorTf
import Derived.Test.YtpjenmchinpgaaaGreatDoorTg
import Derived.Test.YtpjenmchinpgaaaGreatDoorTh
import Derived.SevenTiedAt
import Derived.ProofKit
import Derived.LaidMore
import Derived.OpenShut
import Derived.Stop.Joined
set_option linter.unusedVariables false
namespace Go.Proofs.YtpjenmchinpgaaaGreatDoor
open Go Gv Gw Pu Go.ChangeShapes Go.WideShapes Go.ChangeAt Go.RowKit Go.Deep
theorem own:ownKnob Tryz.prog.godebug=none:=by kernel_rfl
theorem laidOut:laidOutB Tryz.prog=true:=by kernel_rfl
abbrev lay : List (String × DataW Unit) := [("privity/field.exps", Rows.laid_privity_field_exps)]
abbrev O4:List Value:=[.int .i64 ((5:Nat):Int),.int .i64 ((7:Nat):Int),.int .i64 ((13:Nat):Int),.int .i64 ((17:Nat):Int),.int .i64 ((19:Nat):Int),.int .i64 ((31:Nat):Int),.int .i64 ((61:Nat):Int)]
theorem Kw : Tryz.prog.globalNamed "privity/field.exps" = some 0 := by kernel_rfl
theorem NW:(Tryz.prog.globals[0]?).map (·.type)=some 250:=by kernel_rfl
theorem Ff (os:Os) (args:Array Value):laidMetH Tryz.prog lay ((World.doorLaid Tryz.prog 400 os).forCall (fun _ _=>0) ⟨#[],args,[]⟩).memory :=
  laidMetH_of_parts3 (fuel:=8) (laidMet_of_run' 8 (by kernel_rfl) (by kernel_rfl)) (by kernel_rfl) (by kernel_rfl)
theorem zI {W:World} (h:laidMetH Tryz.prog lay W):(OD 0 O4).q (wH W):=by
  rw [MakeChecks.laidMetH_plain _ _ _ (by kernel_rfl)] at h
  obtain ⟨ps,⟨g0,t0,cs0,f0,p0,q0,hg0,ht0,hv0,hd0,_,_⟩,_,_⟩:=h
  obtain rfl:=Option.some.inj (Kw.symm.trans hg0)
  obtain rfl:=Option.some.inj (NW.symm.trans ht0)
  have e:=ES (zs:=[5,7,13,17,19,31,61]) Tryz.underlying250 Tryz.underlying3 (by kernel_rfl) (by kernel_rfl) hd0
  simp only [World.var?,Kw,Option.bind_some] at hv0
  split at hv0
  · next c e1 f1 hh =>
    have hc:=Option.some.inj hv0
    subst hc
    have hlt:0 < W.heap.size:=by
      rcases Nat.eq_zero_or_pos W.heap.size with z | z
      · rw [Array.getElem?_eq_none (by omega)] at hh;cases hh
      · exact z
    refine ⟨hlt,e1,f1,?_⟩
    show W.heap[0]?=_
    rw [hh]
    obtain ⟨l⟩:=c
    have e2:l=O4:=e
    rw [e2]
  · cases hv0
def yM:Nat→Prop:=fun x:Nat=>x < 18446744073709551616
theorem KU:mn Tryz.prog 22 Kd.u64 yM:=D8 Tryz.underlying22
def ru:Int→Prop:=fun x:Int => -9223372036854775808≤x∧x < 9223372036854775808
theorem Hw:mn Tryz.prog 3 Kd.i64 ru:=D7 Tryz.underlying3
instance:Inhabited aD:=⟨⟨default,default,default⟩⟩
def Gi:aD→Prop:=fun x:aD=>yM x.P∧ru x.N∧ru x.T
theorem OT:mn Tryz.prog 24 uV Gi:=se (ok:=fun y:(Nat) × (Int) × (Int)=>yM y.1∧ru y.2.1∧ru y.2.2) (f:=fun x:aD=>(x.P,x.N,x.T)) (fun a:(Nat) × (Int) × (Int)=>⟨a.1,a.2.1,a.2.2⟩) (fun _=>rfl) Tryz.underlying24 (by kernel_rfl) (fH (by kernel_rfl) KU (fH (by kernel_rfl) Hw (uO (by kernel_rfl) Hw) rfl) rfl)
def Gj:List Int→Prop:=fun xs:List Int=>xs.length≤140737488355328∧∀ x ∈ xs,ru x
theorem OU:mn Tryz.prog 25 (Kd.sl Kd.i64) Gj:=vp Tryz.underlying25 (by kernel_rfl) (by decide) (of_decide_eq_true (by kernel_rfl)) Hw
instance:Inhabited aQ:=⟨⟨default,default,default,default,default,default,default,default⟩⟩
def KC:aQ→Prop:=fun x:aQ=>ru x.Round∧ru x.From∧ru x.To∧ru x.At∧ru x.Kind∧yM x.K∧ru x.Of∧ru x.bE
theorem OZ:mn Tryz.prog 60 jQ KC:=se (ok:=fun y:(Int) × (Int) × (Int) × (Int) × (Int) × (Nat) × (Int) × (Int)=>ru y.1∧ru y.2.1∧ru y.2.2.1∧ru y.2.2.2.1∧ru y.2.2.2.2.1∧yM y.2.2.2.2.2.1∧ru y.2.2.2.2.2.2.1∧ru y.2.2.2.2.2.2.2) (f:=fun x:aQ=>(x.Round,x.From,x.To,x.At,x.Kind,x.K,x.Of,x.bE)) (fun a:(Int) × (Int) × (Int) × (Int) × (Int) × (Nat) × (Int) × (Int)=>⟨a.1,a.2.1,a.2.2.1,a.2.2.2.1,a.2.2.2.2.1,a.2.2.2.2.2.1,a.2.2.2.2.2.2.1,a.2.2.2.2.2.2.2⟩) (fun _=>rfl) Tryz.underlying60 (by kernel_rfl) (fH (by kernel_rfl) Hw (fH (by kernel_rfl) Hw (fH (by kernel_rfl) Hw (fH (by kernel_rfl) Hw (fH (by kernel_rfl) Hw (fH (by kernel_rfl) KU (fH (by kernel_rfl) Hw (uO (by kernel_rfl) Hw) rfl) rfl) rfl) rfl) rfl) rfl) rfl)
def Gk:List aQ→Prop:=fun xs:List aQ=>xs.length≤140737488355328∧∀ x ∈ xs,KC x
theorem OV:mn Tryz.prog 26 (Kd.sl jQ) Gk:=vp Tryz.underlying26 (by kernel_rfl) (by decide) (of_decide_eq_true (by kernel_rfl)) OZ
def KB:List Nat→Prop:=fun xs:List Nat=>xs.length≤140737488355328∧∀ x ∈ xs,yM x
theorem OY:mn Tryz.prog 51 (Kd.sl Kd.u64) KB:=vp Tryz.underlying51 (by kernel_rfl) (by decide) (of_decide_eq_true (by kernel_rfl)) KU
def Gm:List (List Nat)→Prop:=fun xs:List (List Nat)=>xs.length≤140737488355328∧∀ x ∈ xs,KB x
theorem OW:mn Tryz.prog 27 (Kd.sl (Kd.sl Kd.u64)) Gm:=vp Tryz.underlying27 (by kernel_rfl) (by decide) (of_decide_eq_true (by kernel_rfl)) OY
instance:Inhabited ae:=⟨⟨default,default,default,default⟩⟩
def Nv:ae→Prop:=fun x:ae=>Gi x.S∧Gj x.ai∧Gk x.aa∧Gm x.ay
theorem OX:mn Tryz.prog 29 sN Nv:=se (ok:=fun y:(aD) × (List Int) × (List aQ) × (List (List Nat))=>Gi y.1∧Gj y.2.1∧Gk y.2.2.1∧Gm y.2.2.2) (f:=fun x:ae=>(x.S,x.ai,x.aa,x.ay)) (fun a:(aD) × (List Int) × (List aQ) × (List (List Nat))=>⟨a.1,a.2.1,a.2.2.1,a.2.2.2⟩) (fun _=>rfl) Tryz.underlying29 (by kernel_rfl) (fH (by kernel_rfl) OT (fH (by kernel_rfl) OU (fH (by kernel_rfl) OV (uO (by kernel_rfl) OW) rfl) rfl) rfl)
def Pm:Nat→Prop:=fun x:Nat=>x < 256
theorem QA:mn Tryz.prog 5 Kd.u8 Pm:=Gp Tryz.underlying5
set_option maxRecDepth 100000 in
theorem ox (os:Os) (started:os.Started) (H:Type) (enc:TypeId × Value→H) :
    ReturnsInHanded {} Tryz.checked os 6 .any (fun w args=>(Rows.tripleTapeConsumptionSpec.pre enc Tryz.prog Tryz.f6 [] false w args∧laidMetH Tryz.prog lay w)∧sizedMet enc Tryz.prog Tryz.f6 (OpenSpec.ofChange Rows.tripleTapeConsumptionSpec) false w args)
      (Rows.tripleTapeConsumptionSpec.post enc Tryz.prog Tryz.f6 false true false false):=by
  refine returnsInHanded_of_change_and (C:=Tryz.checked) (X:=fun w _=>laidMetH Tryz.prog lay w) (fun _ _ _ hh h=>h.of_heap hh) own started (by kernel_rfl) Tryz.func6
    (ChangeSpec.witness_shaped (enc:=enc) (C:=Tryz.checked) (os:=os) (X:=fun w _=>laidMetH Tryz.prog lay w) false (World.doorLaid Tryz.prog 400 os) #[.agg #[.int .u64 0,.int .i64 0,.int .i64 0,.slice none 0 0,.slice none 0 0,.slice none 0 0],.int .u8 0] 8 rfl (World.shaped_of_RefB (by kernel_rfl) (by kernel_rfl)) (by kernel_rfl) (by kernel_rfl) (by kernel_rfl) (Ff os _)) ?_
  intro W base args ds gs before hval0 hW _ hsz hL _
  have hval:∀ (j:Nat) t v,Tryz.f6.params[j]?=some t→args[j]?=some v→Value.okWide Tryz.prog W .any base t v:=hval0
  have hsz1:(DataW.weightsEach Tryz.prog (Tryz.f6.params.toList++[]) (ds++gs)).all (·≤reachBytes)=true:=hsz
  have hW':=hW
  obtain ⟨p,q,Pb,hV,rfl,hfz,hnd⟩:=hW
  have hA:DataW.TrodAll enc Tryz.prog W 0 (fun _=>true) true Tryz.f6.params.toList args.toList ds p:=Pb
  rw [Tryz.params6] at hA hval hsz1
  obtain ⟨v0,vs0,d0,ds0,p0,q0,hargs,rfl,rfl,h0,r0⟩:=trodAll_cons hA
  obtain ⟨v1,vs1,d1,ds1,p1,q1,rfl,rfl,rfl,h1,r1⟩:=trodAll_cons r0
  obtain ⟨rfl,rfl,rfl⟩:=trodAll_nil r1
  obtain rfl:args=#[v0,v1]:=by cases args;simp_all
  obtain ⟨rfl,rfl⟩:=trodVars_none hV
  have k0:=h0
  have lt0:∀ x ∈ p0,x.block < W.heap.size:=by obtain ⟨m,hm⟩:=k0;exact DataW.trod_lt m _ _ _ hm
  have k1:=h1
  have lt1:∀ x ∈ p1,x.block < W.heap.size:=by obtain ⟨m,hm⟩:=k1;exact DataW.trod_lt m _ _ _ hm
  obtain ⟨x0,g0,rfl,gE,ok0⟩:=BX Tryz.underlying29 OX (hval 0 29 v0 rfl rfl) h0 (yh hsz1 0 29 d0 rfl rfl)
  obtain ⟨x1,rfl,ok1⟩:=KX Tryz.underlying5 (hval 1 5 v1 rfl rfl) h1
  have hlaw:=Pu.FT x0 x1 (fun x hx=>(ok0.2.2.1.2 x hx).2.2.2.2.2.1)
  have hpre:∀ a ∈ ((sN.items x0 g0)++[OD 0 O4]),a.bs=[]∧a.q (wH W):=by
    intro a ha
    rcases List.mem_append.1 ha with ha | ha
    · exact gE a ha
    · rw [List.mem_singleton] at ha;subst ha;exact ⟨rfl,zI hL⟩
  refine (Jv (lk hlaw) (fun v L h=>h.1) hpre).mono fun e W' ⟨he,bel⟩=>?_
  subst he
  exact ⟨_,rfl,_,_,_,[],_,[],hW',trodAll_mk1 (shut_bool Tryz.underlying4 _),(trodAll_cons_mk (Below.trod laidOut (by kernel_rfl) (of_decide_eq_true (by kernel_rfl)) k0 bel lt0) (trodAll_cons_mk (Below.trod laidOut (by kernel_rfl) (of_decide_eq_true (by kernel_rfl)) k1 bel lt1) trodAll_mk0)),rfl,bel.frame _,fun h=>by cases h⟩
theorem qM:(fun (P:Program) (f:FuncId) (fn:Func) (s:ChangeSpec) (c:OpenClaim)=>(c.wf (OpenSpec.ofChange s):Bool)) Tryz.prog 6 Tryz.f6 Rows.tripleTapeConsumptionSpec Rows.tripleTapeConsumptionRow=true:=by kernel_rfl
theorem qN:(fun (P:Program) (f:FuncId) (fn:Func) (s:ChangeSpec) (c:OpenClaim)=>(fn.params.all (P.readableRec ·):Bool)) Tryz.prog 6 Tryz.f6 Rows.tripleTapeConsumptionSpec Rows.tripleTapeConsumptionRow=true:=by kernel_rfl
theorem qO:(fun (P:Program) (f:FuncId) (fn:Func) (s:ChangeSpec) (c:OpenClaim)=>(namedTie P c.named s.vars:Bool)) Tryz.prog 6 Tryz.f6 Rows.tripleTapeConsumptionSpec Rows.tripleTapeConsumptionRow=true:=by kernel_rfl
theorem qP:(fun (P:Program) (f:FuncId) (fn:Func) (s:ChangeSpec) (c:OpenClaim)=>((c.stops == []):Bool)) Tryz.prog 6 Tryz.f6 Rows.tripleTapeConsumptionSpec Rows.tripleTapeConsumptionRow=true:=by kernel_rfl
theorem qQ:(fun (P:Program) (f:FuncId) (fn:Func) (s:ChangeSpec) (c:OpenClaim)=>((c.knobs == []):Bool)) Tryz.prog 6 Tryz.f6 Rows.tripleTapeConsumptionSpec Rows.tripleTapeConsumptionRow=true:=by kernel_rfl
theorem qR:(fun (P:Program) (f:FuncId) (fn:Func) (s:ChangeSpec) (c:OpenClaim)=>((c.inPlace == P.inPlace f):Bool)) Tryz.prog 6 Tryz.f6 Rows.tripleTapeConsumptionSpec Rows.tripleTapeConsumptionRow=true:=by kernel_rfl
theorem pJ:(fun (P:Program) (f:FuncId) (fn:Func) (s:ChangeSpec) (c:OpenClaim)=>((c.unfollowed == P.unfollowed f):Bool)) Tryz.prog 6 Tryz.f6 Rows.tripleTapeConsumptionSpec Rows.tripleTapeConsumptionRow=true:=by kernel_rfl
theorem pK:(fun (P:Program) (f:FuncId) (fn:Func) (s:ChangeSpec) (c:OpenClaim)=>((c.recurses == P.recurses f):Bool)) Tryz.prog 6 Tryz.f6 Rows.tripleTapeConsumptionSpec Rows.tripleTapeConsumptionRow=true:=by kernel_rfl
theorem pL:(fun (P:Program) (f:FuncId) (fn:Func) (s:ChangeSpec) (c:OpenClaim)=>((c.named == P.varsNamed f):Bool)) Tryz.prog 6 Tryz.f6 Rows.tripleTapeConsumptionSpec Rows.tripleTapeConsumptionRow=true:=by kernel_rfl
theorem pM:(fun (P:Program) (f:FuncId) (fn:Func) (s:ChangeSpec) (c:OpenClaim)=>((c.maps == (fn.params.toList++s.plain.varTypes P).any (P.mapsRec ·)):Bool)) Tryz.prog 6 Tryz.f6 Rows.tripleTapeConsumptionSpec Rows.tripleTapeConsumptionRow=true:=by kernel_rfl
theorem pN:(fun (P:Program) (f:FuncId) (fn:Func) (s:ChangeSpec) (c:OpenClaim)=>((c.ifaces == (fn.params.toList++s.plain.varTypes P).any (P.ifacesRec ·)):Bool)) Tryz.prog 6 Tryz.f6 Rows.tripleTapeConsumptionSpec Rows.tripleTapeConsumptionRow=true:=by kernel_rfl
theorem pO:(fun (P:Program) (f:FuncId) (fn:Func) (s:ChangeSpec) (c:OpenClaim)=>((c.mapsOut == P.mapsAmong fn.resultTypes.toList):Bool)) Tryz.prog 6 Tryz.f6 Rows.tripleTapeConsumptionSpec Rows.tripleTapeConsumptionRow=true:=by kernel_rfl
theorem pQ:(fun (P:Program) (f:FuncId) (fn:Func) (s:ChangeSpec) (c:OpenClaim)=>((c.loops == (fn.params.toList++s.plain.varTypes P).any (P.loopsFrom ·)):Bool)) Tryz.prog 6 Tryz.f6 Rows.tripleTapeConsumptionSpec Rows.tripleTapeConsumptionRow=true:=by kernel_rfl
theorem pR:(fun (P:Program) (f:FuncId) (fn:Func) (s:ChangeSpec) (c:OpenClaim)=>((c.wideKeys == (fn.params.toList++s.plain.varTypes P++fn.resultTypes.toList).any (P.wideKeysFrom ·)):Bool)) Tryz.prog 6 Tryz.f6 Rows.tripleTapeConsumptionSpec Rows.tripleTapeConsumptionRow=true:=by kernel_rfl
theorem pS:(fun (P:Program) (f:FuncId) (fn:Func) (s:ChangeSpec) (c:OpenClaim)=>(s.vars.all (P.varReadable ·):Bool)) Tryz.prog 6 Tryz.f6 Rows.tripleTapeConsumptionSpec Rows.tripleTapeConsumptionRow=true:=by kernel_rfl
theorem pT:(fun (P:Program) (f:FuncId) (fn:Func) (s:ChangeSpec) (c:OpenClaim)=>(fn.resultTypes.all (fun t=>P.readableRec t && decide (t < P.types.size)):Bool)) Tryz.prog 6 Tryz.f6 Rows.tripleTapeConsumptionSpec Rows.tripleTapeConsumptionRow=true:=by kernel_rfl
theorem pU:(fun (P:Program) (f:FuncId) (fn:Func) (s:ChangeSpec) (c:OpenClaim)=>((c.ifacesOut == fn.resultTypes.toList.any (P.ifacesRec ·)):Bool)) Tryz.prog 6 Tryz.f6 Rows.tripleTapeConsumptionSpec Rows.tripleTapeConsumptionRow=true:=by kernel_rfl
theorem pV:(fun (P:Program) (f:FuncId) (fn:Func) (s:ChangeSpec) (c:OpenClaim)=>((c.loopsOut == fn.resultTypes.toList.any (P.loopsFrom ·)):Bool)) Tryz.prog 6 Tryz.f6 Rows.tripleTapeConsumptionSpec Rows.tripleTapeConsumptionRow=true:=by kernel_rfl
theorem pW:(fun (P:Program) (f:FuncId) (fn:Func) (s:ChangeSpec) (c:OpenClaim)=>((c.plainKeys == P.plainKeys):Bool)) Tryz.prog 6 Tryz.f6 Rows.tripleTapeConsumptionSpec Rows.tripleTapeConsumptionRow=true:=by kernel_rfl
theorem pX:(fun (P:Program) (f:FuncId) (fn:Func) (s:ChangeSpec) (c:OpenClaim)=>(c.shortTexts.isNone:Bool)) Tryz.prog 6 Tryz.f6 Rows.tripleTapeConsumptionSpec Rows.tripleTapeConsumptionRow=true:=by kernel_rfl
theorem pY:(fun (P:Program) (f:FuncId) (fn:Func) (s:ChangeSpec) (c:OpenClaim)=>((c.kinds == (if c.domain.isEmpty then [] else fn.params.toList.map fun t=>match P.underlying t with | some (.int k)=>some k | _=>none)):Bool)) Tryz.prog 6 Tryz.f6 Rows.tripleTapeConsumptionSpec Rows.tripleTapeConsumptionRow=true:=by kernel_rfl
theorem pZ:(fun (P:Program) (f:FuncId) (fn:Func) (s:ChangeSpec) (c:OpenClaim)=>((c.pinned == c.pinnedBy):Bool)) Tryz.prog 6 Tryz.f6 Rows.tripleTapeConsumptionSpec Rows.tripleTapeConsumptionRow=true:=by kernel_rfl
theorem p5:(fun (P:Program) (f:FuncId) (fn:Func) (s:ChangeSpec) (c:OpenClaim)=>((c.veiled == (fn.params.toList++s.plain.varTypes P++fn.resultTypes.toList).any (P.veiledRec ·)):Bool)) Tryz.prog 6 Tryz.f6 Rows.tripleTapeConsumptionSpec Rows.tripleTapeConsumptionRow=true:=by kernel_rfl
theorem p6:(fun (P:Program) (f:FuncId) (fn:Func) (s:ChangeSpec) (c:OpenClaim)=>(c.veiledFits P fn.params.toList (fn.params.toList++s.plain.varTypes P++fn.resultTypes.toList):Bool)) Tryz.prog 6 Tryz.f6 Rows.tripleTapeConsumptionSpec Rows.tripleTapeConsumptionRow=true:=by kernel_rfl
set_option maxRecDepth 100000 in
theorem ow:joinedFacts Tryz.prog 6 Tryz.f6 Rows.tripleTapeConsumptionSpec Rows.tripleTapeConsumptionRow=true:=(ba (ba (ba (ba (ba (ba (ba (ba (ba (ba (ba (ba (ba (ba (ba (ba (ba (ba (ba (ba (ba (ba (ba (ba (ba (ba (ba (ba (ba (ba (ba qM Qo) Qp) qN) qO) qP) Qq) qQ) Qr) qR) pJ) pK) pL) pM) pN) pO) pQ) pR) pS) pT) pU) pV) pW) pX) Po) Pq) JE) JG) pY) pZ) p5) p6)
theorem pC:false=Rows.tripleTapeConsumptionRow.goesBy Tryz.prog:=by kernel_rfl
theorem qS:Rows.tripleTapeConsumptionRow.wfByText (OpenSpec.ofChange Rows.tripleTapeConsumptionSpec)=true:=by kernel_rfl
theorem p7:Rows.TripleTapeConsumptionSaid :=
  OpenClaim.holds_of_wide 6 Tryz.f6 rfl rfl rfl rfl rfl rfl rfl ⟨rfl,rfl,rfl,rfl,rfl⟩ rfl rfl rfl rfl rfl (by kernel_rfl) Tryz.func6 ow
    (of_decide_eq_true (by kernel_rfl)) (by unfold Func.isWrapper;first | (rw [if_pos (by decide +kernel)];kernel_rfl) | (rw [if_neg (by decide +kernel)];exact ⟨rfl,rfl⟩))
    (fun os started H enc _=>ox os started H enc)
theorem tripleTapeConsumption_holds:Rows.TripleTapeConsumptionCardSaid :=
  Claim7.holds_tied_plain_at .later [] [.data] true (true, "e2ad1b46d66589fd1320099ce90bc2556f02fc8d380b0d61ab7b9004b1e81e27") false
    p7 (fun _ h=>by cases h) qS (fun _ h=>by cases h) tripleTapeConsumption_row_tie rfl ⟨rfl,rfl⟩ JF rfl
    (fun f fn hf hfn=>by
      obtain rfl : f = 6 := Option.some.inj ((show Tryz.prog.funcNamed "privity/privitylaw22.TripleTapeConsumption" = some 6 by kernel_rfl).symm.trans hf) |>.symm
      obtain rfl:fn=Tryz.f6:=(Option.some.inj (Tryz.func6.symm.trans hfn)).symm
      exact ⟨Gz,fun j t ht=>by
        rw [Tryz.params6] at ht
        have hm:t ∈ [29,5]:=by simpa using Array.mem_of_getElem? ht
        have hall:([29,5].all fun u=>!Tryz.prog.wantsStandIn u)=true:=by kernel_rfl
        exact (show Tryz.prog.wantsStandIn t=false by simpa using List.all_eq_true.1 hall t hm)⟩)
    pC
#print axioms tripleTapeConsumption_holds
end Go.Proofs.YtpjenmchinpgaaaGreatDoor
