/- With every party finishing, sharing ends as the reference ends, in every scenario. No conditions beyond those of the statement. -/
import Derived.Test.YtahofpgjianhdaaGreatDoorQv
import Derived.Test.YtahofpgjianhdaaGreatDoorKNc4
import Derived.Test.YtahofpgjianhdaaGreatDoorTp3
import Derived.Test.YtahofpgjianhdaaGreatDoorCards
import Derived.Test.YtahofpgjianhdaaGreatDoorTie
import Derived.Test.YtahofpgjianhdaaGreatDoorTp2
import Derived.Test.YtahofpgjianhdaaGreatDoorTf
import Derived.Test.YtahofpgjianhdaaGreatDoorTg
import Derived.Test.YtahofpgjianhdaaGreatDoorTh
import Derived.SevenTiedAt
import Derived.ProofKit
import Derived.LaidMore
import Derived.OpenShut
import Derived.Stop.Joined
set_option linter.unusedVariables false
namespace Go.Proofs.YtahofpgjianhdaaGreatDoor
open Go Gv Gw Pu Go.ChangeShapes Go.WideShapes Go.ChangeAt Go.RowKit Go.Deep
theorem own:ownKnob Tryz.prog.godebug=none:=by kernel_rfl
theorem laidOut:laidOutB Tryz.prog=true:=by kernel_rfl
abbrev lay : List (String × DataW Unit) := [("privity/field.exps", Rows.laid_privity_field_exps)]
abbrev Kf:List Value:=[.int .i64 ((5:Nat):Int),.int .i64 ((7:Nat):Int),.int .i64 ((13:Nat):Int),.int .i64 ((17:Nat):Int),.int .i64 ((19:Nat):Int),.int .i64 ((31:Nat):Int),.int .i64 ((61:Nat):Int)]
theorem Gc : Tryz.prog.globalNamed "privity/field.exps" = some 0 := by kernel_rfl
theorem Jk:(Tryz.prog.globals[0]?).map (·.type)=some 226:=by kernel_rfl
theorem BQ (os:Os) (args:Array Value):laidMetH Tryz.prog lay ((World.doorLaid Tryz.prog 400 os).forCall (fun _ _=>0) ⟨#[],args,[]⟩).memory :=
  laidMetH_of_parts3 (fuel:=8) (laidMet_of_run' 8 (by kernel_rfl) (by kernel_rfl)) (by kernel_rfl) (by kernel_rfl)
theorem we {W:World} (h:laidMetH Tryz.prog lay W):(JP 0 Kf).q (ud W):=by
  rw [MakeChecks.laidMetH_plain _ _ _ (by kernel_rfl)] at h
  obtain ⟨ps,⟨g0,t0,cs0,f0,p0,q0,hg0,ht0,hv0,hd0,_,_⟩,_,_⟩:=h
  obtain rfl:=Option.some.inj (Gc.symm.trans hg0)
  obtain rfl:=Option.some.inj (Jk.symm.trans ht0)
  have e:=BD (zs:=[5,7,13,17,19,31,61]) Tryz.underlying226 Tryz.underlying3 (by kernel_rfl) (by kernel_rfl) hd0
  simp only [World.var?,Gc,Option.bind_some] at hv0
  split at hv0
  · next c e1 f1 hh =>
    have hc:=Option.some.inj hv0
    subst hc
    have hlt:0 < W.heap.size:=by
      rcases Nat.eq_zero_or_pos W.heap.size with z | z
      · rw [Array.getElem?_eq_none (by omega)] at hh;cases hh
      · exact z
    refine ⟨hlt,e1,f1,?_⟩
    show W.heap[0]?=_
    rw [hh]
    obtain ⟨l⟩:=c
    have e2:l=Kf:=e
    rw [e2]
  · cases hv0
def vC:Nat→Prop:=fun x:Nat=>x < 18446744073709551616
theorem Gx:lE Tryz.prog 22 Kd.u64 vC:=AX Tryz.underlying22
def pF:Int→Prop:=fun x:Int => -9223372036854775808≤x∧x < 9223372036854775808
theorem Dw:lE Tryz.prog 3 Kd.i64 pF:=AW Tryz.underlying3
instance:Inhabited bf:=⟨⟨default,default,default⟩⟩
def CE:bf→Prop:=fun x:bf=>vC x.P∧pF x.N∧pF x.T
theorem J0:lE Tryz.prog 24 sD CE:=oa (ok:=fun y:(Nat) × (Int) × (Int)=>vC y.1∧pF y.2.1∧pF y.2.2) (f:=fun x:bf=>(x.P,x.N,x.T)) (fun a:(Nat) × (Int) × (Int)=>⟨a.1,a.2.1,a.2.2⟩) (fun _=>rfl) Tryz.underlying24 (by kernel_rfl) (fa (by kernel_rfl) Gx (fa (by kernel_rfl) Dw (p5 (by kernel_rfl) Dw) rfl) rfl)
def CF:List Int→Prop:=fun xs:List Int=>xs.length≤140737488355328∧∀ x ∈ xs,pF x
theorem J1:lE Tryz.prog 25 (Kd.sl Kd.i64) CF:=q9 Tryz.underlying25 (by kernel_rfl) (by decide) (of_decide_eq_true (by kernel_rfl)) Dw
instance:Inhabited aS:=⟨⟨default,default,default,default,default,default,default,default⟩⟩
def CC:aS→Prop:=fun x:aS=>pF x.Round∧pF x.From∧pF x.To∧pF x.At∧pF x.Kind∧vC x.K∧pF x.Of∧pF x.aV
theorem Im:lE Tryz.prog 152 jz CC:=oa (ok:=fun y:(Int) × (Int) × (Int) × (Int) × (Int) × (Nat) × (Int) × (Int)=>pF y.1∧pF y.2.1∧pF y.2.2.1∧pF y.2.2.2.1∧pF y.2.2.2.2.1∧vC y.2.2.2.2.2.1∧pF y.2.2.2.2.2.2.1∧pF y.2.2.2.2.2.2.2) (f:=fun x:aS=>(x.Round,x.From,x.To,x.At,x.Kind,x.K,x.Of,x.aV)) (fun a:(Int) × (Int) × (Int) × (Int) × (Int) × (Nat) × (Int) × (Int)=>⟨a.1,a.2.1,a.2.2.1,a.2.2.2.1,a.2.2.2.2.1,a.2.2.2.2.2.1,a.2.2.2.2.2.2.1,a.2.2.2.2.2.2.2⟩) (fun _=>rfl) Tryz.underlying152 (by kernel_rfl) (fa (by kernel_rfl) Dw (fa (by kernel_rfl) Dw (fa (by kernel_rfl) Dw (fa (by kernel_rfl) Dw (fa (by kernel_rfl) Dw (fa (by kernel_rfl) Gx (fa (by kernel_rfl) Dw (p5 (by kernel_rfl) Dw) rfl) rfl) rfl) rfl) rfl) rfl) rfl)
def CG:List aS→Prop:=fun xs:List aS=>xs.length≤140737488355328∧∀ x ∈ xs,CC x
theorem J2:lE Tryz.prog 26 (Kd.sl jz) CG:=q9 Tryz.underlying26 (by kernel_rfl) (by decide) (of_decide_eq_true (by kernel_rfl)) Im
def Gf:List Nat→Prop:=fun xs:List Nat=>xs.length≤140737488355328∧∀ x ∈ xs,vC x
theorem J6:lE Tryz.prog 60 (Kd.sl Kd.u64) Gf:=q9 Tryz.underlying60 (by kernel_rfl) (by decide) (of_decide_eq_true (by kernel_rfl)) Gx
def zU:List (List Nat)→Prop:=fun xs:List (List Nat)=>xs.length≤140737488355328∧∀ x ∈ xs,Gf x
theorem Io:lE Tryz.prog 27 (Kd.sl (Kd.sl Kd.u64)) zU:=q9 Tryz.underlying27 (by kernel_rfl) (by decide) (of_decide_eq_true (by kernel_rfl)) J6
instance:Inhabited ab:=⟨⟨default,default,default,default⟩⟩
def CH:ab→Prop:=fun x:ab=>CE x.S∧CF x.ah∧CG x.aa∧zU x.au
theorem J3:lE Tryz.prog 29 qA CH:=oa (ok:=fun y:(bf) × (List Int) × (List aS) × (List (List Nat))=>CE y.1∧CF y.2.1∧CG y.2.2.1∧zU y.2.2.2) (f:=fun x:ab=>(x.S,x.ah,x.aa,x.au)) (fun a:(bf) × (List Int) × (List aS) × (List (List Nat))=>⟨a.1,a.2.1,a.2.2.1,a.2.2.2⟩) (fun _=>rfl) Tryz.underlying29 (by kernel_rfl) (fa (by kernel_rfl) J0 (fa (by kernel_rfl) J1 (fa (by kernel_rfl) J2 (p5 (by kernel_rfl) Io) rfl) rfl) rfl)
def CI:List (List (List Nat))→Prop:=fun xs:List (List (List Nat))=>xs.length≤140737488355328∧∀ x ∈ xs,zU x
theorem J4:lE Tryz.prog 30 (Kd.sl (Kd.sl (Kd.sl Kd.u64))) CI:=q9 Tryz.underlying30 (by kernel_rfl) (by decide) (of_decide_eq_true (by kernel_rfl)) Io
instance:Inhabited cV:=⟨⟨default,default⟩⟩
def IQ:cV→Prop:=fun x:cV=>CH x.W∧CI x.Q
theorem J5:lE Tryz.prog 32 nS IQ:=oa (ok:=fun y:(ab) × (List (List (List Nat)))=>CH y.1∧CI y.2) (f:=fun x:cV=>(x.W,x.Q)) (fun a:(ab) × (List (List (List Nat)))=>⟨a.1,a.2⟩) (fun _=>rfl) Tryz.underlying32 (by kernel_rfl) (fa (by kernel_rfl) J3 (p5 (by kernel_rfl) J4) rfl)
set_option maxRecDepth 100000 in
theorem ll (os:Os) (started:os.Started) (H:Type) (enc:TypeId × Value→H) :
    ReturnsInHanded {} Tryz.checked os 3 .any (fun w args=>(Rows.vSSCompleteMatchesReferenceSpec.pre enc Tryz.prog Tryz.f3 [] false w args∧laidMetH Tryz.prog lay w)∧sizedMet enc Tryz.prog Tryz.f3 (OpenSpec.ofChange Rows.vSSCompleteMatchesReferenceSpec) false w args)
      (Rows.vSSCompleteMatchesReferenceSpec.post enc Tryz.prog Tryz.f3 false true false false):=by
  refine returnsInHanded_of_change_and (C:=Tryz.checked) (X:=fun w _=>laidMetH Tryz.prog lay w) (fun _ _ _ hh h=>h.of_heap hh) own started (by kernel_rfl) Tryz.func3
    (ChangeSpec.witness_shaped (enc:=enc) (C:=Tryz.checked) (os:=os) (X:=fun w _=>laidMetH Tryz.prog lay w) false (World.doorLaid Tryz.prog 400 os) #[.agg #[.int .u64 0,.int .i64 0,.int .i64 0,.slice none 0 0,.slice none 0 0,.slice none 0 0,.slice none 0 0]] 8 rfl (World.shaped_of_RefB (by kernel_rfl) (by kernel_rfl)) (by kernel_rfl) (by kernel_rfl) (by kernel_rfl) (BQ os _)) ?_
  intro W base args ds gs before hval0 hW _ hsz hL _
  have hval:∀ (j:Nat) t v,Tryz.f3.params[j]?=some t→args[j]?=some v→Value.okWide Tryz.prog W .any base t v:=hval0
  have hsz1:(DataW.weightsEach Tryz.prog (Tryz.f3.params.toList++[]) (ds++gs)).all (·≤reachBytes)=true:=hsz
  have hW':=hW
  obtain ⟨p,q,hA0,hV,rfl,hfz,hnd⟩:=hW
  have hA:DataW.TrodAll enc Tryz.prog W 0 (fun _=>true) true Tryz.f3.params.toList args.toList ds p:=hA0
  rw [Tryz.params3] at hA hval hsz1
  obtain ⟨v0,vs0,d0,ds0,p0,q0,hargs,rfl,rfl,h0,r0⟩:=trodAll_cons hA
  obtain ⟨rfl,rfl,rfl⟩:=trodAll_nil r0
  obtain rfl:args=#[v0]:=by cases args;simp_all
  obtain ⟨rfl,rfl⟩:=trodVars_none hV
  have k0:=h0
  have lt0:∀ x ∈ p0,x.block < W.heap.size:=by obtain ⟨m,hm⟩:=k0;exact DataW.trod_lt m _ _ _ hm
  obtain ⟨x0,g0,rfl,jc,ok0⟩:=yo Tryz.underlying32 J5 (hval 0 32 v0 rfl rfl) h0 (vd hsz1 0 32 d0 rfl rfl)
  have hlaw:=Pu.rW x0 (fun x hx=>(ok0.1.2.2.1.2 x hx).2.2.2.2.2.1)
  have hpre:∀ a ∈ ((nS.items x0 g0)++[JP 0 Kf]),a.bs=[]∧a.q (ud W):=by
    intro a ha
    rcases List.mem_append.1 ha with ha | ha
    · exact jc a ha
    · rw [List.mem_singleton] at ha;subst ha;exact ⟨rfl,we hL⟩
  refine (E8 (jf hlaw) (fun v L h=>h.1) hpre).mono fun e W' ⟨he,bel⟩=>?_
  subst he
  exact ⟨_,rfl,_,_,_,[],_,[],hW',trodAll_mk1 (shut_bool Tryz.underlying4 _),(trodAll_cons_mk (Below.trod laidOut (by kernel_rfl) (of_decide_eq_true (by kernel_rfl)) k0 bel lt0) trodAll_mk0),rfl,bel.frame _,fun h=>by cases h⟩
theorem mW:(fun (P:Program) (f:FuncId) (fn:Func) (s:ChangeSpec) (c:OpenClaim)=>(c.wf (OpenSpec.ofChange s):Bool)) Tryz.prog 3 Tryz.f3 Rows.vSSCompleteMatchesReferenceSpec Rows.vSSCompleteMatchesReferenceRow=true:=by kernel_rfl
theorem mX:(fun (P:Program) (f:FuncId) (fn:Func) (s:ChangeSpec) (c:OpenClaim)=>(fn.params.all (P.readableRec ·):Bool)) Tryz.prog 3 Tryz.f3 Rows.vSSCompleteMatchesReferenceSpec Rows.vSSCompleteMatchesReferenceRow=true:=by kernel_rfl
theorem mY:(fun (P:Program) (f:FuncId) (fn:Func) (s:ChangeSpec) (c:OpenClaim)=>(namedTie P c.named s.vars:Bool)) Tryz.prog 3 Tryz.f3 Rows.vSSCompleteMatchesReferenceSpec Rows.vSSCompleteMatchesReferenceRow=true:=by kernel_rfl
theorem mZ:(fun (P:Program) (f:FuncId) (fn:Func) (s:ChangeSpec) (c:OpenClaim)=>((c.stops == []):Bool)) Tryz.prog 3 Tryz.f3 Rows.vSSCompleteMatchesReferenceSpec Rows.vSSCompleteMatchesReferenceRow=true:=by kernel_rfl
theorem m0:(fun (P:Program) (f:FuncId) (fn:Func) (s:ChangeSpec) (c:OpenClaim)=>((c.knobs == []):Bool)) Tryz.prog 3 Tryz.f3 Rows.vSSCompleteMatchesReferenceSpec Rows.vSSCompleteMatchesReferenceRow=true:=by kernel_rfl
theorem m3:(fun (P:Program) (f:FuncId) (fn:Func) (s:ChangeSpec) (c:OpenClaim)=>((c.inPlace == P.inPlace f):Bool)) Tryz.prog 3 Tryz.f3 Rows.vSSCompleteMatchesReferenceSpec Rows.vSSCompleteMatchesReferenceRow=true:=by kernel_rfl
theorem md:(fun (P:Program) (f:FuncId) (fn:Func) (s:ChangeSpec) (c:OpenClaim)=>((c.unfollowed == P.unfollowed f):Bool)) Tryz.prog 3 Tryz.f3 Rows.vSSCompleteMatchesReferenceSpec Rows.vSSCompleteMatchesReferenceRow=true:=by kernel_rfl
theorem me:(fun (P:Program) (f:FuncId) (fn:Func) (s:ChangeSpec) (c:OpenClaim)=>((c.recurses == P.recurses f):Bool)) Tryz.prog 3 Tryz.f3 Rows.vSSCompleteMatchesReferenceSpec Rows.vSSCompleteMatchesReferenceRow=true:=by kernel_rfl
theorem mf:(fun (P:Program) (f:FuncId) (fn:Func) (s:ChangeSpec) (c:OpenClaim)=>((c.named == P.varsNamed f):Bool)) Tryz.prog 3 Tryz.f3 Rows.vSSCompleteMatchesReferenceSpec Rows.vSSCompleteMatchesReferenceRow=true:=by kernel_rfl
theorem mg:(fun (P:Program) (f:FuncId) (fn:Func) (s:ChangeSpec) (c:OpenClaim)=>((c.maps == (fn.params.toList++s.plain.varTypes P).any (P.mapsRec ·)):Bool)) Tryz.prog 3 Tryz.f3 Rows.vSSCompleteMatchesReferenceSpec Rows.vSSCompleteMatchesReferenceRow=true:=by kernel_rfl
theorem mh:(fun (P:Program) (f:FuncId) (fn:Func) (s:ChangeSpec) (c:OpenClaim)=>((c.ifaces == (fn.params.toList++s.plain.varTypes P).any (P.ifacesRec ·)):Bool)) Tryz.prog 3 Tryz.f3 Rows.vSSCompleteMatchesReferenceSpec Rows.vSSCompleteMatchesReferenceRow=true:=by kernel_rfl
theorem mi:(fun (P:Program) (f:FuncId) (fn:Func) (s:ChangeSpec) (c:OpenClaim)=>((c.mapsOut == P.mapsAmong fn.resultTypes.toList):Bool)) Tryz.prog 3 Tryz.f3 Rows.vSSCompleteMatchesReferenceSpec Rows.vSSCompleteMatchesReferenceRow=true:=by kernel_rfl
theorem mj:(fun (P:Program) (f:FuncId) (fn:Func) (s:ChangeSpec) (c:OpenClaim)=>((c.loops == (fn.params.toList++s.plain.varTypes P).any (P.loopsFrom ·)):Bool)) Tryz.prog 3 Tryz.f3 Rows.vSSCompleteMatchesReferenceSpec Rows.vSSCompleteMatchesReferenceRow=true:=by kernel_rfl
theorem ml:(fun (P:Program) (f:FuncId) (fn:Func) (s:ChangeSpec) (c:OpenClaim)=>((c.wideKeys == (fn.params.toList++s.plain.varTypes P++fn.resultTypes.toList).any (P.wideKeysFrom ·)):Bool)) Tryz.prog 3 Tryz.f3 Rows.vSSCompleteMatchesReferenceSpec Rows.vSSCompleteMatchesReferenceRow=true:=by kernel_rfl
theorem mn:(fun (P:Program) (f:FuncId) (fn:Func) (s:ChangeSpec) (c:OpenClaim)=>(s.vars.all (P.varReadable ·):Bool)) Tryz.prog 3 Tryz.f3 Rows.vSSCompleteMatchesReferenceSpec Rows.vSSCompleteMatchesReferenceRow=true:=by kernel_rfl
theorem mo:(fun (P:Program) (f:FuncId) (fn:Func) (s:ChangeSpec) (c:OpenClaim)=>(fn.resultTypes.all (fun t=>P.readableRec t && decide (t < P.types.size)):Bool)) Tryz.prog 3 Tryz.f3 Rows.vSSCompleteMatchesReferenceSpec Rows.vSSCompleteMatchesReferenceRow=true:=by kernel_rfl
theorem mp:(fun (P:Program) (f:FuncId) (fn:Func) (s:ChangeSpec) (c:OpenClaim)=>((c.ifacesOut == fn.resultTypes.toList.any (P.ifacesRec ·)):Bool)) Tryz.prog 3 Tryz.f3 Rows.vSSCompleteMatchesReferenceSpec Rows.vSSCompleteMatchesReferenceRow=true:=by kernel_rfl
theorem mq:(fun (P:Program) (f:FuncId) (fn:Func) (s:ChangeSpec) (c:OpenClaim)=>((c.loopsOut == fn.resultTypes.toList.any (P.loopsFrom ·)):Bool)) Tryz.prog 3 Tryz.f3 Rows.vSSCompleteMatchesReferenceSpec Rows.vSSCompleteMatchesReferenceRow=true:=by kernel_rfl
theorem mr:(fun (P:Program) (f:FuncId) (fn:Func) (s:ChangeSpec) (c:OpenClaim)=>((c.plainKeys == P.plainKeys):Bool)) Tryz.prog 3 Tryz.f3 Rows.vSSCompleteMatchesReferenceSpec Rows.vSSCompleteMatchesReferenceRow=true:=by kernel_rfl
theorem mt:(fun (P:Program) (f:FuncId) (fn:Func) (s:ChangeSpec) (c:OpenClaim)=>(c.shortTexts.isNone:Bool)) Tryz.prog 3 Tryz.f3 Rows.vSSCompleteMatchesReferenceSpec Rows.vSSCompleteMatchesReferenceRow=true:=by kernel_rfl
theorem mu:(fun (P:Program) (f:FuncId) (fn:Func) (s:ChangeSpec) (c:OpenClaim)=>((c.kinds == (if c.domain.isEmpty then [] else fn.params.toList.map fun t=>match P.underlying t with | some (.int k)=>some k | _=>none)):Bool)) Tryz.prog 3 Tryz.f3 Rows.vSSCompleteMatchesReferenceSpec Rows.vSSCompleteMatchesReferenceRow=true:=by kernel_rfl
theorem mw:(fun (P:Program) (f:FuncId) (fn:Func) (s:ChangeSpec) (c:OpenClaim)=>((c.pinned == c.pinnedBy):Bool)) Tryz.prog 3 Tryz.f3 Rows.vSSCompleteMatchesReferenceSpec Rows.vSSCompleteMatchesReferenceRow=true:=by kernel_rfl
theorem my:(fun (P:Program) (f:FuncId) (fn:Func) (s:ChangeSpec) (c:OpenClaim)=>((c.veiled == (fn.params.toList++s.plain.varTypes P++fn.resultTypes.toList).any (P.veiledRec ·)):Bool)) Tryz.prog 3 Tryz.f3 Rows.vSSCompleteMatchesReferenceSpec Rows.vSSCompleteMatchesReferenceRow=true:=by kernel_rfl
theorem mz:(fun (P:Program) (f:FuncId) (fn:Func) (s:ChangeSpec) (c:OpenClaim)=>(c.veiledFits P fn.params.toList (fn.params.toList++s.plain.varTypes P++fn.resultTypes.toList):Bool)) Tryz.prog 3 Tryz.f3 Rows.vSSCompleteMatchesReferenceSpec Rows.vSSCompleteMatchesReferenceRow=true:=by kernel_rfl
set_option maxRecDepth 100000 in
theorem lk:joinedFacts Tryz.prog 3 Tryz.f3 Rows.vSSCompleteMatchesReferenceSpec Rows.vSSCompleteMatchesReferenceRow=true:=(ba (ba (ba (ba (ba (ba (ba (ba (ba (ba (ba (ba (ba (ba (ba (ba (ba (ba (ba (ba (ba (ba (ba (ba (ba (ba (ba (ba (ba (ba (ba mW K9) La) mX) mY) mZ) Lb) m0) Lc) m3) md) me) mf) mg) mh) mi) mj) ml) mn) mo) mp) mq) mr) mt) Kw) Kx) Fj) Fp) mu) mw) my) mz)
theorem lU:false=Rows.vSSCompleteMatchesReferenceRow.goesBy Tryz.prog:=by kernel_rfl
theorem m4:Rows.vSSCompleteMatchesReferenceRow.wfByText (OpenSpec.ofChange Rows.vSSCompleteMatchesReferenceSpec)=true:=by kernel_rfl
theorem mA:Rows.VSSCompleteMatchesReferenceSaid :=
  OpenClaim.holds_of_wide 3 Tryz.f3 rfl rfl rfl rfl rfl rfl rfl ⟨rfl,rfl,rfl,rfl,rfl⟩ rfl rfl rfl rfl rfl (by kernel_rfl) Tryz.func3 lk
    (of_decide_eq_true (by kernel_rfl)) (by unfold Func.isWrapper;first | (rw [if_pos (by decide +kernel)];kernel_rfl) | (rw [if_neg (by decide +kernel)];exact ⟨rfl,rfl⟩))
    (fun os started H enc _=>ll os started H enc)
theorem vSSCompleteMatchesReference_holds:Rows.VSSCompleteMatchesReferenceCardSaid :=
  Claim7.holds_tied_plain_at .later [] [.data] true (true, "54a06071e2c9ac4a59bf004b097d9bd6aae4a5a0dce0adb63097aaa15ca4d18f") false
    mA (fun _ h=>by cases h) m4 (fun _ h=>by cases h) vSSCompleteMatchesReference_row_tie rfl ⟨rfl,rfl⟩ Fo rfl
    (fun f fn hf hfn=>by
      obtain rfl : f = 3 := Option.some.inj ((show Tryz.prog.funcNamed "privity/privitylaw19.VSSCompleteMatchesReference" = some 3 by kernel_rfl).symm.trans hf) |>.symm
      obtain rfl:fn=Tryz.f3:=(Option.some.inj (Tryz.func3.symm.trans hfn)).symm
      exact ⟨CO,fun j t ht=>by
        rw [Tryz.params3] at ht
        have hm:t ∈ [32]:=by simpa using Array.mem_of_getElem? ht
        have hall:([32].all fun u=>!Tryz.prog.wantsStandIn u)=true:=by kernel_rfl
        exact (show Tryz.prog.wantsStandIn t=false by simpa using List.all_eq_true.1 hall t hm)⟩)
    lU
#print axioms vSSCompleteMatchesReference_holds
end Go.Proofs.YtahofpgjianhdaaGreatDoor
