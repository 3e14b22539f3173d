/- The sharings of zero that are generated stand in every scenario. No conditions beyond those of the statement. -/
import Derived.Test.YthdaobopefbpeaaGreatDoorRg
import Derived.Test.YthdaobopefbpeaaGreatDoorMCc4
import Derived.Test.YthdaobopefbpeaaGreatDoorTp3
import Derived.Test.YthdaobopefbpeaaGreatDoorCards
import Derived.Test.YthdaobopefbpeaaGreatDoorTie
import Derived.Test.YthdaobopefbpeaaGreatDoorTp2
import Derived.Test.YthdaobopefbpeaaGreatDoorTf
import Derived.Test.YthdaobopefbpeaaGreatDoorTg
import Derived.Test.YthdaobopefbpeaaGreatDoorTh
import Derived.SevenTiedAt
import Derived.ProofKit
import Derived.LaidMore
import Derived.OpenShut
import Derived.Stop.Joined
set_option linter.unusedVariables false
namespace Go.Proofs.YthdaobopefbpeaaGreatDoor
open Go Gv Gw Pu Go.ChangeShapes Go.WideShapes Go.ChangeAt Go.RowKit Go.Deep
theorem own:ownKnob Tryz.prog.godebug=none:=by kernel_rfl
theorem laidOut:laidOutB Tryz.prog=true:=by kernel_rfl
abbrev lay : List (String × DataW Unit) := [("privity/field.exps", Rows.laid_privity_field_exps)]
abbrev N0:List Value:=[.int .i64 ((5:Nat):Int),.int .i64 ((7:Nat):Int),.int .i64 ((13:Nat):Int),.int .i64 ((17:Nat):Int),.int .i64 ((19:Nat):Int),.int .i64 ((31:Nat):Int),.int .i64 ((61:Nat):Int)]
theorem JJ : Tryz.prog.globalNamed "privity/field.exps" = some 0 := by kernel_rfl
theorem MV:(Tryz.prog.globals[0]?).map (·.type)=some 253:=by kernel_rfl
theorem Ee (os:Os) (args:Array Value):laidMetH Tryz.prog lay ((World.doorLaid Tryz.prog 400 os).forCall (fun _ _=>0) ⟨#[],args,[]⟩).memory :=
  laidMetH_of_parts3 (fuel:=8) (laidMet_of_run' 8 (by kernel_rfl) (by kernel_rfl)) (by kernel_rfl) (by kernel_rfl)
theorem yI {W:World} (h:laidMetH Tryz.prog lay W):(NC 0 N0).q (vV W):=by
  rw [MakeChecks.laidMetH_plain _ _ _ (by kernel_rfl)] at h
  obtain ⟨ps,⟨g0,t0,cs0,f0,p0,q0,hg0,ht0,hv0,hd0,_,_⟩,_,_⟩:=h
  obtain rfl:=Option.some.inj (JJ.symm.trans hg0)
  obtain rfl:=Option.some.inj (MV.symm.trans ht0)
  have e:=DV (zs:=[5,7,13,17,19,31,61]) Tryz.underlying253 Tryz.underlying3 (by kernel_rfl) (by kernel_rfl) hd0
  simp only [World.var?,JJ,Option.bind_some] at hv0
  split at hv0
  · next c e1 f1 hh =>
    have hc:=Option.some.inj hv0
    subst hc
    have hlt:0 < W.heap.size:=by
      rcases Nat.eq_zero_or_pos W.heap.size with z | z
      · rw [Array.getElem?_eq_none (by omega)] at hh;cases hh
      · exact z
    refine ⟨hlt,e1,f1,?_⟩
    show W.heap[0]?=_
    rw [hh]
    obtain ⟨l⟩:=c
    have e2:l=N0:=e
    rw [e2]
  · cases hv0
def xS:Nat→Prop:=fun x:Nat=>x < 18446744073709551616
theorem J2:ny Tryz.prog 22 Kd.u64 xS:=C7 Tryz.underlying22
def qt:Int→Prop:=fun x:Int => -9223372036854775808≤x∧x < 9223372036854775808
theorem Gs:ny Tryz.prog 3 Kd.i64 qt:=C6 Tryz.underlying3
instance:Inhabited aS:=⟨⟨default,default,default⟩⟩
def E8:aS→Prop:=fun x:aS=>xS x.P∧qt x.N∧qt x.T
theorem NR:ny Tryz.prog 24 us E8:=qU (ok:=fun y:(Nat) × (Int) × (Int)=>xS y.1∧qt y.2.1∧qt y.2.2) (f:=fun x:aS=>(x.P,x.N,x.T)) (fun a:(Nat) × (Int) × (Int)=>⟨a.1,a.2.1,a.2.2⟩) (fun _=>rfl) Tryz.underlying24 (by kernel_rfl) (fw (by kernel_rfl) J2 (fw (by kernel_rfl) Gs (uk (by kernel_rfl) Gs) rfl) rfl)
def E9:List Int→Prop:=fun xs:List Int=>xs.length≤140737488355328∧∀ x ∈ xs,qt x
theorem NS:ny Tryz.prog 25 (Kd.sl Kd.i64) E9:=uO Tryz.underlying25 (by kernel_rfl) (by decide) (of_decide_eq_true (by kernel_rfl)) Gs
instance:Inhabited aQ:=⟨⟨default,default,default,default,default,default,default,default⟩⟩
def E7:aQ→Prop:=fun x:aQ=>qt x.Round∧qt x.From∧qt x.To∧qt x.At∧qt x.Kind∧xS x.K∧qt x.Of∧qt x.bA
theorem Ma:ny Tryz.prog 130 jR E7:=qU (ok:=fun y:(Int) × (Int) × (Int) × (Int) × (Int) × (Nat) × (Int) × (Int)=>qt y.1∧qt y.2.1∧qt y.2.2.1∧qt y.2.2.2.1∧qt y.2.2.2.2.1∧xS y.2.2.2.2.2.1∧qt y.2.2.2.2.2.2.1∧qt y.2.2.2.2.2.2.2) (f:=fun x:aQ=>(x.Round,x.From,x.To,x.At,x.Kind,x.K,x.Of,x.bA)) (fun a:(Int) × (Int) × (Int) × (Int) × (Int) × (Nat) × (Int) × (Int)=>⟨a.1,a.2.1,a.2.2.1,a.2.2.2.1,a.2.2.2.2.1,a.2.2.2.2.2.1,a.2.2.2.2.2.2.1,a.2.2.2.2.2.2.2⟩) (fun _=>rfl) Tryz.underlying130 (by kernel_rfl) (fw (by kernel_rfl) Gs (fw (by kernel_rfl) Gs (fw (by kernel_rfl) Gs (fw (by kernel_rfl) Gs (fw (by kernel_rfl) Gs (fw (by kernel_rfl) J2 (fw (by kernel_rfl) Gs (uk (by kernel_rfl) Gs) rfl) rfl) rfl) rfl) rfl) rfl) rfl)
def Fa:List aQ→Prop:=fun xs:List aQ=>xs.length≤140737488355328∧∀ x ∈ xs,E7 x
theorem NT:ny Tryz.prog 26 (Kd.sl jR) Fa:=uO Tryz.underlying26 (by kernel_rfl) (by decide) (of_decide_eq_true (by kernel_rfl)) Ma
def JO:List Nat→Prop:=fun xs:List Nat=>xs.length≤140737488355328∧∀ x ∈ xs,xS x
theorem NW:ny Tryz.prog 58 (Kd.sl Kd.u64) JO:=uO Tryz.underlying58 (by kernel_rfl) (by decide) (of_decide_eq_true (by kernel_rfl)) J2
def Fb:List (List Nat)→Prop:=fun xs:List (List Nat)=>xs.length≤140737488355328∧∀ x ∈ xs,JO x
theorem NU:ny Tryz.prog 27 (Kd.sl (Kd.sl Kd.u64)) Fb:=uO Tryz.underlying27 (by kernel_rfl) (by decide) (of_decide_eq_true (by kernel_rfl)) NW
instance:Inhabited ae:=⟨⟨default,default,default,default⟩⟩
def MB:ae→Prop:=fun x:ae=>E8 x.S∧E9 x.ah∧Fa x.aa∧Fb x.aA
theorem NV:ny Tryz.prog 29 rX MB:=qU (ok:=fun y:(aS) × (List Int) × (List aQ) × (List (List Nat))=>E8 y.1∧E9 y.2.1∧Fa y.2.2.1∧Fb y.2.2.2) (f:=fun x:ae=>(x.S,x.ah,x.aa,x.aA)) (fun a:(aS) × (List Int) × (List aQ) × (List (List Nat))=>⟨a.1,a.2.1,a.2.2.1,a.2.2.2⟩) (fun _=>rfl) Tryz.underlying29 (by kernel_rfl) (fw (by kernel_rfl) NR (fw (by kernel_rfl) NS (fw (by kernel_rfl) NT (uk (by kernel_rfl) NU) rfl) rfl) rfl)
set_option maxRecDepth 100000 in
theorem pX (os:Os) (started:os.Started) (H:Type) (enc:TypeId × Value→H) :
    ReturnsInHanded {} Tryz.checked os 4 .any (fun w args=>(Rows.refreshZeroSecretSpec.pre enc Tryz.prog Tryz.f4 [] false w args∧laidMetH Tryz.prog lay w)∧sizedMet enc Tryz.prog Tryz.f4 (OpenSpec.ofChange Rows.refreshZeroSecretSpec) false w args)
      (Rows.refreshZeroSecretSpec.post enc Tryz.prog Tryz.f4 false true false false):=by
  refine returnsInHanded_of_change_and (C:=Tryz.checked) (X:=fun w _=>laidMetH Tryz.prog lay w) (fun _ _ _ hh h=>h.of_heap hh) own started (by kernel_rfl) Tryz.func4
    (ChangeSpec.witness_shaped (enc:=enc) (C:=Tryz.checked) (os:=os) (X:=fun w _=>laidMetH Tryz.prog lay w) false (World.doorLaid Tryz.prog 400 os) #[.agg #[.int .u64 0,.int .i64 0,.int .i64 0,.slice none 0 0,.slice none 0 0,.slice none 0 0],.int .i64 0] 8 rfl (World.shaped_of_RefB (by kernel_rfl) (by kernel_rfl)) (by kernel_rfl) (by kernel_rfl) (by kernel_rfl) (Ee os _)) ?_
  intro W base args ds gs before hval0 hW _ hsz hL _
  have hval:∀ (j:Nat) t v,Tryz.f4.params[j]?=some t→args[j]?=some v→Value.okWide Tryz.prog W .any base t v:=hval0
  have hsz1:(DataW.weightsEach Tryz.prog (Tryz.f4.params.toList++[]) (ds++gs)).all (·≤reachBytes)=true:=hsz
  have hW':=hW
  obtain ⟨p,q,hA0,hV,rfl,hfz,hnd⟩:=hW
  have hA:DataW.TrodAll enc Tryz.prog W 0 (fun _=>true) true Tryz.f4.params.toList args.toList ds p:=hA0
  rw [Tryz.params4] at hA hval hsz1
  obtain ⟨v0,vs0,d0,ds0,p0,q0,hargs,rfl,rfl,h0,r0⟩:=trodAll_cons hA
  obtain ⟨v1,vs1,d1,ds1,p1,q1,rfl,rfl,rfl,h1,r1⟩:=trodAll_cons r0
  obtain ⟨rfl,rfl,rfl⟩:=trodAll_nil r1
  obtain rfl:args=#[v0,v1]:=by cases args;simp_all
  obtain ⟨rfl,rfl⟩:=trodVars_none hV
  have k0:=h0
  have lt0:∀ x ∈ p0,x.block < W.heap.size:=by obtain ⟨m,hm⟩:=k0;exact DataW.trod_lt m _ _ _ hm
  have k1:=h1
  have lt1:∀ x ∈ p1,x.block < W.heap.size:=by obtain ⟨m,hm⟩:=k1;exact DataW.trod_lt m _ _ _ hm
  obtain ⟨x0,g0,rfl,fB,ok0⟩:=AP Tryz.underlying29 NV (hval 0 29 v0 rfl rfl) h0 (xp hsz1 0 29 d0 rfl rfl)
  obtain ⟨x1,rfl,ok1⟩:=GH Tryz.underlying3 (hval 1 3 v1 rfl rfl) h1
  have hlaw:=Pu.wU x0 x1 (fun x hx=>(ok0.2.2.1.2 x hx).2.2.2.2.2.1)
  have hpre:∀ a ∈ ((rX.items x0 g0)++[NC 0 N0]),a.bs=[]∧a.q (vV W):=by
    intro a ha
    rcases List.mem_append.1 ha with ha | ha
    · exact fB a ha
    · rw [List.mem_singleton] at ha;subst ha;exact ⟨rfl,yI hL⟩
  refine (Ix (mp hlaw) (fun v L h=>h.1) hpre).mono fun e W' ⟨he,bel⟩=>?_
  subst he
  exact ⟨_,rfl,_,_,_,[],_,[],hW',trodAll_mk1 (shut_bool Tryz.underlying4 _),(trodAll_cons_mk (Below.trod laidOut (by kernel_rfl) (of_decide_eq_true (by kernel_rfl)) k0 bel lt0) (trodAll_cons_mk (Below.trod laidOut (by kernel_rfl) (of_decide_eq_true (by kernel_rfl)) k1 bel lt1) trodAll_mk0)),rfl,bel.frame _,fun h=>by cases h⟩
theorem sM:(fun (P:Program) (f:FuncId) (fn:Func) (s:ChangeSpec) (c:OpenClaim)=>(c.wf (OpenSpec.ofChange s):Bool)) Tryz.prog 4 Tryz.f4 Rows.refreshZeroSecretSpec Rows.refreshZeroSecretRow=true:=by kernel_rfl
theorem sN:(fun (P:Program) (f:FuncId) (fn:Func) (s:ChangeSpec) (c:OpenClaim)=>(fn.params.all (P.readableRec ·):Bool)) Tryz.prog 4 Tryz.f4 Rows.refreshZeroSecretSpec Rows.refreshZeroSecretRow=true:=by kernel_rfl
theorem sO:(fun (P:Program) (f:FuncId) (fn:Func) (s:ChangeSpec) (c:OpenClaim)=>(namedTie P c.named s.vars:Bool)) Tryz.prog 4 Tryz.f4 Rows.refreshZeroSecretSpec Rows.refreshZeroSecretRow=true:=by kernel_rfl
theorem sP:(fun (P:Program) (f:FuncId) (fn:Func) (s:ChangeSpec) (c:OpenClaim)=>((c.stops == []):Bool)) Tryz.prog 4 Tryz.f4 Rows.refreshZeroSecretSpec Rows.refreshZeroSecretRow=true:=by kernel_rfl
theorem sQ:(fun (P:Program) (f:FuncId) (fn:Func) (s:ChangeSpec) (c:OpenClaim)=>((c.knobs == []):Bool)) Tryz.prog 4 Tryz.f4 Rows.refreshZeroSecretSpec Rows.refreshZeroSecretRow=true:=by kernel_rfl
theorem sS:(fun (P:Program) (f:FuncId) (fn:Func) (s:ChangeSpec) (c:OpenClaim)=>((c.inPlace == P.inPlace f):Bool)) Tryz.prog 4 Tryz.f4 Rows.refreshZeroSecretSpec Rows.refreshZeroSecretRow=true:=by kernel_rfl
theorem rz:(fun (P:Program) (f:FuncId) (fn:Func) (s:ChangeSpec) (c:OpenClaim)=>((c.unfollowed == P.unfollowed f):Bool)) Tryz.prog 4 Tryz.f4 Rows.refreshZeroSecretSpec Rows.refreshZeroSecretRow=true:=by kernel_rfl
theorem rA:(fun (P:Program) (f:FuncId) (fn:Func) (s:ChangeSpec) (c:OpenClaim)=>((c.recurses == P.recurses f):Bool)) Tryz.prog 4 Tryz.f4 Rows.refreshZeroSecretSpec Rows.refreshZeroSecretRow=true:=by kernel_rfl
theorem rB:(fun (P:Program) (f:FuncId) (fn:Func) (s:ChangeSpec) (c:OpenClaim)=>((c.named == P.varsNamed f):Bool)) Tryz.prog 4 Tryz.f4 Rows.refreshZeroSecretSpec Rows.refreshZeroSecretRow=true:=by kernel_rfl
theorem rC:(fun (P:Program) (f:FuncId) (fn:Func) (s:ChangeSpec) (c:OpenClaim)=>((c.maps == (fn.params.toList++s.plain.varTypes P).any (P.mapsRec ·)):Bool)) Tryz.prog 4 Tryz.f4 Rows.refreshZeroSecretSpec Rows.refreshZeroSecretRow=true:=by kernel_rfl
theorem rE:(fun (P:Program) (f:FuncId) (fn:Func) (s:ChangeSpec) (c:OpenClaim)=>((c.ifaces == (fn.params.toList++s.plain.varTypes P).any (P.ifacesRec ·)):Bool)) Tryz.prog 4 Tryz.f4 Rows.refreshZeroSecretSpec Rows.refreshZeroSecretRow=true:=by kernel_rfl
theorem rF:(fun (P:Program) (f:FuncId) (fn:Func) (s:ChangeSpec) (c:OpenClaim)=>((c.mapsOut == P.mapsAmong fn.resultTypes.toList):Bool)) Tryz.prog 4 Tryz.f4 Rows.refreshZeroSecretSpec Rows.refreshZeroSecretRow=true:=by kernel_rfl
theorem rG:(fun (P:Program) (f:FuncId) (fn:Func) (s:ChangeSpec) (c:OpenClaim)=>((c.loops == (fn.params.toList++s.plain.varTypes P).any (P.loopsFrom ·)):Bool)) Tryz.prog 4 Tryz.f4 Rows.refreshZeroSecretSpec Rows.refreshZeroSecretRow=true:=by kernel_rfl
theorem rH:(fun (P:Program) (f:FuncId) (fn:Func) (s:ChangeSpec) (c:OpenClaim)=>((c.wideKeys == (fn.params.toList++s.plain.varTypes P++fn.resultTypes.toList).any (P.wideKeysFrom ·)):Bool)) Tryz.prog 4 Tryz.f4 Rows.refreshZeroSecretSpec Rows.refreshZeroSecretRow=true:=by kernel_rfl
theorem rJ:(fun (P:Program) (f:FuncId) (fn:Func) (s:ChangeSpec) (c:OpenClaim)=>(s.vars.all (P.varReadable ·):Bool)) Tryz.prog 4 Tryz.f4 Rows.refreshZeroSecretSpec Rows.refreshZeroSecretRow=true:=by kernel_rfl
theorem rK:(fun (P:Program) (f:FuncId) (fn:Func) (s:ChangeSpec) (c:OpenClaim)=>(fn.resultTypes.all (fun t=>P.readableRec t && decide (t < P.types.size)):Bool)) Tryz.prog 4 Tryz.f4 Rows.refreshZeroSecretSpec Rows.refreshZeroSecretRow=true:=by kernel_rfl
theorem rL:(fun (P:Program) (f:FuncId) (fn:Func) (s:ChangeSpec) (c:OpenClaim)=>((c.ifacesOut == fn.resultTypes.toList.any (P.ifacesRec ·)):Bool)) Tryz.prog 4 Tryz.f4 Rows.refreshZeroSecretSpec Rows.refreshZeroSecretRow=true:=by kernel_rfl
theorem rM:(fun (P:Program) (f:FuncId) (fn:Func) (s:ChangeSpec) (c:OpenClaim)=>((c.loopsOut == fn.resultTypes.toList.any (P.loopsFrom ·)):Bool)) Tryz.prog 4 Tryz.f4 Rows.refreshZeroSecretSpec Rows.refreshZeroSecretRow=true:=by kernel_rfl
theorem rN:(fun (P:Program) (f:FuncId) (fn:Func) (s:ChangeSpec) (c:OpenClaim)=>((c.plainKeys == P.plainKeys):Bool)) Tryz.prog 4 Tryz.f4 Rows.refreshZeroSecretSpec Rows.refreshZeroSecretRow=true:=by kernel_rfl
theorem rO:(fun (P:Program) (f:FuncId) (fn:Func) (s:ChangeSpec) (c:OpenClaim)=>(c.shortTexts.isNone:Bool)) Tryz.prog 4 Tryz.f4 Rows.refreshZeroSecretSpec Rows.refreshZeroSecretRow=true:=by kernel_rfl
theorem rP:(fun (P:Program) (f:FuncId) (fn:Func) (s:ChangeSpec) (c:OpenClaim)=>((c.kinds == (if c.domain.isEmpty then [] else fn.params.toList.map fun t=>match P.underlying t with | some (.int k)=>some k | _=>none)):Bool)) Tryz.prog 4 Tryz.f4 Rows.refreshZeroSecretSpec Rows.refreshZeroSecretRow=true:=by kernel_rfl
theorem rQ:(fun (P:Program) (f:FuncId) (fn:Func) (s:ChangeSpec) (c:OpenClaim)=>((c.pinned == c.pinnedBy):Bool)) Tryz.prog 4 Tryz.f4 Rows.refreshZeroSecretSpec Rows.refreshZeroSecretRow=true:=by kernel_rfl
theorem rR:(fun (P:Program) (f:FuncId) (fn:Func) (s:ChangeSpec) (c:OpenClaim)=>((c.veiled == (fn.params.toList++s.plain.varTypes P++fn.resultTypes.toList).any (P.veiledRec ·)):Bool)) Tryz.prog 4 Tryz.f4 Rows.refreshZeroSecretSpec Rows.refreshZeroSecretRow=true:=by kernel_rfl
theorem rT:(fun (P:Program) (f:FuncId) (fn:Func) (s:ChangeSpec) (c:OpenClaim)=>(c.veiledFits P fn.params.toList (fn.params.toList++s.plain.varTypes P++fn.resultTypes.toList):Bool)) Tryz.prog 4 Tryz.f4 Rows.refreshZeroSecretSpec Rows.refreshZeroSecretRow=true:=by kernel_rfl
set_option maxRecDepth 100000 in
theorem pW:joinedFacts Tryz.prog 4 Tryz.f4 Rows.refreshZeroSecretSpec Rows.refreshZeroSecretRow=true:=(ba (ba (ba (ba (ba (ba (ba (ba (ba (ba (ba (ba (ba (ba (ba (ba (ba (ba (ba (ba (ba (ba (ba (ba (ba (ba (ba (ba (ba (ba (ba sM O2) O3) sN) sO) sP) O4) sQ) O5) sS) rz) rA) rB) rC) rE) rF) rG) rH) rJ) rK) rL) rM) rN) rO) Og) Oh) IP) IR) rP) rQ) rR) rT)
theorem q8:false=Rows.refreshZeroSecretRow.goesBy Tryz.prog:=by kernel_rfl
theorem sT:Rows.refreshZeroSecretRow.wfByText (OpenSpec.ofChange Rows.refreshZeroSecretSpec)=true:=by kernel_rfl
theorem rV:Rows.RefreshZeroSecretSaid :=
  OpenClaim.holds_of_wide 4 Tryz.f4 rfl rfl rfl rfl rfl rfl rfl ⟨rfl,rfl,rfl,rfl,rfl⟩ rfl rfl rfl rfl rfl (by kernel_rfl) Tryz.func4 pW
    (of_decide_eq_true (by kernel_rfl)) (by unfold Func.isWrapper;first | (rw [if_pos (by decide +kernel)];kernel_rfl) | (rw [if_neg (by decide +kernel)];exact ⟨rfl,rfl⟩))
    (fun os started H enc _=>pX os started H enc)
theorem refreshZeroSecret_holds:Rows.RefreshZeroSecretCardSaid :=
  Claim7.holds_tied_plain_at .later [] [.data] true (true, "c50bb092a4548bf55711e292c2d5b4d32e6f1ba79cbcab8b9b3c69cfcd11c3b3") false
    rV (fun _ h=>by cases h) sT (fun _ h=>by cases h) refreshZeroSecret_row_tie rfl ⟨rfl,rfl⟩ IQ rfl
    (fun f fn hf hfn=>by
      obtain rfl : f = 4 := Option.some.inj ((show Tryz.prog.funcNamed "privity/privitylaw46.RefreshZeroSecret" = some 4 by kernel_rfl).symm.trans hf) |>.symm
      obtain rfl:fn=Tryz.f4:=(Option.some.inj (Tryz.func4.symm.trans hfn)).symm
      exact ⟨Fp,fun j t ht=>by
        rw [Tryz.params4] at ht
        have hm:t ∈ [29,3]:=by simpa using Array.mem_of_getElem? ht
        have hall:([29,3].all fun u=>!Tryz.prog.wantsStandIn u)=true:=by kernel_rfl
        exact (show Tryz.prog.wantsStandIn t=false by simpa using List.all_eq_true.1 hall t hm)⟩)
    q8
#print axioms refreshZeroSecret_holds
end Go.Proofs.YthdaobopefbpeaaGreatDoor
