/- Sharing gives what the reference gives, in every scenario. No conditions beyond those of the statement. -/
import Derived.Test.YtahofpgjianhdaaGreatDoorQv
import Derived.Test.YtahofpgjianhdaaGreatDoorKMc4
import Derived.Test.YtahofpgjianhdaaGreatDoorTp3
import Derived.Test.YtahofpgjianhdaaGreatDoorCards
import Derived.Test.YtahofpgjianhdaaGreatDoorTie
import Derived.Test.YtahofpgjianhdaaGreatDoorTp2
import Derived.Test.YtahofpgjianhdaaGreatDoorTf
import Derived.Test.YtahofpgjianhdaaGreatDoorTg
import Derived.Test.YtahofpgjianhdaaGreatDoorTh
import Derived.SevenTiedAt
import Derived.ProofKit
import Derived.LaidMore
import Derived.OpenShut
import Derived.Stop.Joined
set_option linter.unusedVariables false
namespace Go.Proofs.YtahofpgjianhdaaGreatDoor
open Go Gv Gw Pu Go.ChangeShapes Go.WideShapes Go.ChangeAt Go.RowKit Go.Deep
theorem own:ownKnob Tryz.prog.godebug=none:=by kernel_rfl
theorem laidOut:laidOutB Tryz.prog=true:=by kernel_rfl
abbrev lay : List (String × DataW Unit) := [("privity/field.exps", Rows.laid_privity_field_exps)]
abbrev KS:List Value:=[.int .i64 ((5:Nat):Int),.int .i64 ((7:Nat):Int),.int .i64 ((13:Nat):Int),.int .i64 ((17:Nat):Int),.int .i64 ((19:Nat):Int),.int .i64 ((31:Nat):Int),.int .i64 ((61:Nat):Int)]
theorem GH : Tryz.prog.globalNamed "privity/field.exps" = some 0 := by kernel_rfl
theorem JO:(Tryz.prog.globals[0]?).map (·.type)=some 226:=by kernel_rfl
theorem Ce (os:Os) (args:Array Value):laidMetH Tryz.prog lay ((World.doorLaid Tryz.prog 400 os).forCall (fun _ _=>0) ⟨#[],args,[]⟩).memory :=
  laidMetH_of_parts3 (fuel:=8) (laidMet_of_run' 8 (by kernel_rfl) (by kernel_rfl)) (by kernel_rfl) (by kernel_rfl)
theorem wH {W:World} (h:laidMetH Tryz.prog lay W):(Kp 0 KS).q (uz W):=by
  rw [MakeChecks.laidMetH_plain _ _ _ (by kernel_rfl)] at h
  obtain ⟨ps,⟨g0,t0,cs0,f0,p0,q0,hg0,ht0,hv0,hd0,_,_⟩,_,_⟩:=h
  obtain rfl:=Option.some.inj (GH.symm.trans hg0)
  obtain rfl:=Option.some.inj (JO.symm.trans ht0)
  have e:=B1 (zs:=[5,7,13,17,19,31,61]) Tryz.underlying226 Tryz.underlying3 (by kernel_rfl) (by kernel_rfl) hd0
  simp only [World.var?,GH,Option.bind_some] at hv0
  split at hv0
  · next c e1 f1 hh =>
    have hc:=Option.some.inj hv0
    subst hc
    have hlt:0 < W.heap.size:=by
      rcases Nat.eq_zero_or_pos W.heap.size with z | z
      · rw [Array.getElem?_eq_none (by omega)] at hh;cases hh
      · exact z
    refine ⟨hlt,e1,f1,?_⟩
    show W.heap[0]?=_
    rw [hh]
    obtain ⟨l⟩:=c
    have e2:l=KS:=e
    rw [e2]
  · cases hv0
def vY:Nat→Prop:=fun x:Nat=>x < 18446744073709551616
theorem GX:lN Tryz.prog 22 Kd.u64 vY:=Bp Tryz.underlying22
def py:Int→Prop:=fun x:Int => -9223372036854775808≤x∧x < 9223372036854775808
theorem D7:lN Tryz.prog 3 Kd.i64 py:=Bo Tryz.underlying3
instance:Inhabited bi:=⟨⟨default,default,default⟩⟩
def C2:bi→Prop:=fun x:bi=>vY x.P∧py x.N∧py x.T
theorem KC:lN Tryz.prog 24 sY C2:=nM (ok:=fun y:(Nat) × (Int) × (Int)=>vY y.1∧py y.2.1∧py y.2.2) (f:=fun x:bi=>(x.P,x.N,x.T)) (fun a:(Nat) × (Int) × (Int)=>⟨a.1,a.2.1,a.2.2⟩) (fun _=>rfl) Tryz.underlying24 (by kernel_rfl) (fa (by kernel_rfl) GX (fa (by kernel_rfl) D7 (qh (by kernel_rfl) D7) rfl) rfl)
def C3:List Int→Prop:=fun xs:List Int=>xs.length≤140737488355328∧∀ x ∈ xs,py x
theorem KF:lN Tryz.prog 25 (Kd.sl Kd.i64) C3:=rE Tryz.underlying25 (by kernel_rfl) (by decide) (of_decide_eq_true (by kernel_rfl)) D7
instance:Inhabited aT:=⟨⟨default,default,default,default,default,default,default,default⟩⟩
def C1:aT→Prop:=fun x:aT=>py x.Round∧py x.From∧py x.To∧py x.At∧py x.Kind∧vY x.K∧py x.Of∧py x.aX
theorem IY:lN Tryz.prog 152 jH C1:=nM (ok:=fun y:(Int) × (Int) × (Int) × (Int) × (Int) × (Nat) × (Int) × (Int)=>py y.1∧py y.2.1∧py y.2.2.1∧py y.2.2.2.1∧py y.2.2.2.2.1∧vY y.2.2.2.2.2.1∧py y.2.2.2.2.2.2.1∧py y.2.2.2.2.2.2.2) (f:=fun x:aT=>(x.Round,x.From,x.To,x.At,x.Kind,x.K,x.Of,x.aX)) (fun a:(Int) × (Int) × (Int) × (Int) × (Int) × (Nat) × (Int) × (Int)=>⟨a.1,a.2.1,a.2.2.1,a.2.2.2.1,a.2.2.2.2.1,a.2.2.2.2.2.1,a.2.2.2.2.2.2.1,a.2.2.2.2.2.2.2⟩) (fun _=>rfl) Tryz.underlying152 (by kernel_rfl) (fa (by kernel_rfl) D7 (fa (by kernel_rfl) D7 (fa (by kernel_rfl) D7 (fa (by kernel_rfl) D7 (fa (by kernel_rfl) D7 (fa (by kernel_rfl) GX (fa (by kernel_rfl) D7 (qh (by kernel_rfl) D7) rfl) rfl) rfl) rfl) rfl) rfl) rfl)
def C4:List aT→Prop:=fun xs:List aT=>xs.length≤140737488355328∧∀ x ∈ xs,C1 x
theorem KG:lN Tryz.prog 26 (Kd.sl jH) C4:=rE Tryz.underlying26 (by kernel_rfl) (by decide) (of_decide_eq_true (by kernel_rfl)) IY
def GK:List Nat→Prop:=fun xs:List Nat=>xs.length≤140737488355328∧∀ x ∈ xs,vY x
theorem KL:lN Tryz.prog 60 (Kd.sl Kd.u64) GK:=rE Tryz.underlying60 (by kernel_rfl) (by decide) (of_decide_eq_true (by kernel_rfl)) GX
def Aq:List (List Nat)→Prop:=fun xs:List (List Nat)=>xs.length≤140737488355328∧∀ x ∈ xs,GK x
theorem IZ:lN Tryz.prog 27 (Kd.sl (Kd.sl Kd.u64)) Aq:=rE Tryz.underlying27 (by kernel_rfl) (by decide) (of_decide_eq_true (by kernel_rfl)) KL
instance:Inhabited ab:=⟨⟨default,default,default,default⟩⟩
def C5:ab→Prop:=fun x:ab=>C2 x.S∧C3 x.ah∧C4 x.aa∧Aq x.av
theorem KH:lN Tryz.prog 29 qW C5:=nM (ok:=fun y:(bi) × (List Int) × (List aT) × (List (List Nat))=>C2 y.1∧C3 y.2.1∧C4 y.2.2.1∧Aq y.2.2.2) (f:=fun x:ab=>(x.S,x.ah,x.aa,x.av)) (fun a:(bi) × (List Int) × (List aT) × (List (List Nat))=>⟨a.1,a.2.1,a.2.2.1,a.2.2.2⟩) (fun _=>rfl) Tryz.underlying29 (by kernel_rfl) (fa (by kernel_rfl) KC (fa (by kernel_rfl) KF (fa (by kernel_rfl) KG (qh (by kernel_rfl) IZ) rfl) rfl) rfl)
def C6:List (List (List Nat))→Prop:=fun xs:List (List (List Nat))=>xs.length≤140737488355328∧∀ x ∈ xs,Aq x
theorem KI:lN Tryz.prog 30 (Kd.sl (Kd.sl (Kd.sl Kd.u64))) C6:=rE Tryz.underlying30 (by kernel_rfl) (by decide) (of_decide_eq_true (by kernel_rfl)) IZ
instance:Inhabited cK:=⟨⟨default,default⟩⟩
def Jw:cK→Prop:=fun x:cK=>C5 x.W∧C6 x.Q
theorem KJ:lN Tryz.prog 32 nB Jw:=nM (ok:=fun y:(ab) × (List (List (List Nat)))=>C5 y.1∧C6 y.2) (f:=fun x:cK=>(x.W,x.Q)) (fun a:(ab) × (List (List (List Nat)))=>⟨a.1,a.2⟩) (fun _=>rfl) Tryz.underlying32 (by kernel_rfl) (fa (by kernel_rfl) KH (qh (by kernel_rfl) KI) rfl)
set_option maxRecDepth 100000 in
theorem oj (os:Os) (started:os.Started) (H:Type) (enc:TypeId × Value→H) :
    ReturnsInHanded {} Tryz.checked os 5 .any (fun w args=>(Rows.vSSMatchesReferenceSpec.pre enc Tryz.prog Tryz.f5 [] false w args∧laidMetH Tryz.prog lay w)∧sizedMet enc Tryz.prog Tryz.f5 (OpenSpec.ofChange Rows.vSSMatchesReferenceSpec) false w args)
      (Rows.vSSMatchesReferenceSpec.post enc Tryz.prog Tryz.f5 false true false false):=by
  refine returnsInHanded_of_change_and (C:=Tryz.checked) (X:=fun w _=>laidMetH Tryz.prog lay w) (fun _ _ _ hh h=>h.of_heap hh) own started (by kernel_rfl) Tryz.func5
    (ChangeSpec.witness_shaped (enc:=enc) (C:=Tryz.checked) (os:=os) (X:=fun w _=>laidMetH Tryz.prog lay w) false (World.doorLaid Tryz.prog 400 os) #[.agg #[.int .u64 0,.int .i64 0,.int .i64 0,.slice none 0 0,.slice none 0 0,.slice none 0 0,.slice none 0 0]] 8 rfl (World.shaped_of_RefB (by kernel_rfl) (by kernel_rfl)) (by kernel_rfl) (by kernel_rfl) (by kernel_rfl) (Ce os _)) ?_
  intro W base args ds gs before hval0 hW _ hsz hL _
  have hval:∀ (j:Nat) t v,Tryz.f5.params[j]?=some t→args[j]?=some v→Value.okWide Tryz.prog W .any base t v:=hval0
  have hsz1:(DataW.weightsEach Tryz.prog (Tryz.f5.params.toList++[]) (ds++gs)).all (·≤reachBytes)=true:=hsz
  have hW':=hW
  obtain ⟨p,q,hA0,hV,rfl,hfz,hnd⟩:=hW
  have hA:DataW.TrodAll enc Tryz.prog W 0 (fun _=>true) true Tryz.f5.params.toList args.toList ds p:=hA0
  rw [Tryz.params5] at hA hval hsz1
  obtain ⟨v0,vs0,d0,ds0,p0,q0,hargs,rfl,rfl,h0,r0⟩:=trodAll_cons hA
  obtain ⟨rfl,rfl,rfl⟩:=trodAll_nil r0
  obtain rfl:args=#[v0]:=by cases args;simp_all
  obtain ⟨rfl,rfl⟩:=trodVars_none hV
  have k0:=h0
  have lt0:∀ x ∈ p0,x.block < W.heap.size:=by obtain ⟨m,hm⟩:=k0;exact DataW.trod_lt m _ _ _ hm
  obtain ⟨x0,g0,rfl,i9,ok0⟩:=yP Tryz.underlying32 KJ (hval 0 32 v0 rfl rfl) h0 (vB hsz1 0 32 d0 rfl rfl)
  have hlaw:=Pu.xY x0 (fun x hx=>(ok0.1.2.2.1.2 x hx).2.2.2.2.2.1)
  have hpre:∀ a ∈ ((nB.items x0 g0)++[Kp 0 KS]),a.bs=[]∧a.q (uz W):=by
    intro a ha
    rcases List.mem_append.1 ha with ha | ha
    · exact i9 a ha
    · rw [List.mem_singleton] at ha;subst ha;exact ⟨rfl,wH hL⟩
  refine (FI (ln hlaw) (fun v L h=>h.1) hpre).mono fun e W' ⟨he,bel⟩=>?_
  subst he
  exact ⟨_,rfl,_,_,_,[],_,[],hW',trodAll_mk1 (shut_bool Tryz.underlying4 _),(trodAll_cons_mk (Below.trod laidOut (by kernel_rfl) (of_decide_eq_true (by kernel_rfl)) k0 bel lt0) trodAll_mk0),rfl,bel.frame _,fun h=>by cases h⟩
theorem qq:(fun (P:Program) (f:FuncId) (fn:Func) (s:ChangeSpec) (c:OpenClaim)=>(c.wf (OpenSpec.ofChange s):Bool)) Tryz.prog 5 Tryz.f5 Rows.vSSMatchesReferenceSpec Rows.vSSMatchesReferenceRow=true:=by kernel_rfl
theorem qs:(fun (P:Program) (f:FuncId) (fn:Func) (s:ChangeSpec) (c:OpenClaim)=>(fn.params.all (P.readableRec ·):Bool)) Tryz.prog 5 Tryz.f5 Rows.vSSMatchesReferenceSpec Rows.vSSMatchesReferenceRow=true:=by kernel_rfl
theorem qt:(fun (P:Program) (f:FuncId) (fn:Func) (s:ChangeSpec) (c:OpenClaim)=>(namedTie P c.named s.vars:Bool)) Tryz.prog 5 Tryz.f5 Rows.vSSMatchesReferenceSpec Rows.vSSMatchesReferenceRow=true:=by kernel_rfl
theorem qu:(fun (P:Program) (f:FuncId) (fn:Func) (s:ChangeSpec) (c:OpenClaim)=>((c.stops == []):Bool)) Tryz.prog 5 Tryz.f5 Rows.vSSMatchesReferenceSpec Rows.vSSMatchesReferenceRow=true:=by kernel_rfl
theorem qv:(fun (P:Program) (f:FuncId) (fn:Func) (s:ChangeSpec) (c:OpenClaim)=>((c.knobs == []):Bool)) Tryz.prog 5 Tryz.f5 Rows.vSSMatchesReferenceSpec Rows.vSSMatchesReferenceRow=true:=by kernel_rfl
theorem qw:(fun (P:Program) (f:FuncId) (fn:Func) (s:ChangeSpec) (c:OpenClaim)=>((c.inPlace == P.inPlace f):Bool)) Tryz.prog 5 Tryz.f5 Rows.vSSMatchesReferenceSpec Rows.vSSMatchesReferenceRow=true:=by kernel_rfl
theorem pF:(fun (P:Program) (f:FuncId) (fn:Func) (s:ChangeSpec) (c:OpenClaim)=>((c.unfollowed == P.unfollowed f):Bool)) Tryz.prog 5 Tryz.f5 Rows.vSSMatchesReferenceSpec Rows.vSSMatchesReferenceRow=true:=by kernel_rfl
theorem pG:(fun (P:Program) (f:FuncId) (fn:Func) (s:ChangeSpec) (c:OpenClaim)=>((c.recurses == P.recurses f):Bool)) Tryz.prog 5 Tryz.f5 Rows.vSSMatchesReferenceSpec Rows.vSSMatchesReferenceRow=true:=by kernel_rfl
theorem pH:(fun (P:Program) (f:FuncId) (fn:Func) (s:ChangeSpec) (c:OpenClaim)=>((c.named == P.varsNamed f):Bool)) Tryz.prog 5 Tryz.f5 Rows.vSSMatchesReferenceSpec Rows.vSSMatchesReferenceRow=true:=by kernel_rfl
theorem pI:(fun (P:Program) (f:FuncId) (fn:Func) (s:ChangeSpec) (c:OpenClaim)=>((c.maps == (fn.params.toList++s.plain.varTypes P).any (P.mapsRec ·)):Bool)) Tryz.prog 5 Tryz.f5 Rows.vSSMatchesReferenceSpec Rows.vSSMatchesReferenceRow=true:=by kernel_rfl
theorem pJ:(fun (P:Program) (f:FuncId) (fn:Func) (s:ChangeSpec) (c:OpenClaim)=>((c.ifaces == (fn.params.toList++s.plain.varTypes P).any (P.ifacesRec ·)):Bool)) Tryz.prog 5 Tryz.f5 Rows.vSSMatchesReferenceSpec Rows.vSSMatchesReferenceRow=true:=by kernel_rfl
theorem pK:(fun (P:Program) (f:FuncId) (fn:Func) (s:ChangeSpec) (c:OpenClaim)=>((c.mapsOut == P.mapsAmong fn.resultTypes.toList):Bool)) Tryz.prog 5 Tryz.f5 Rows.vSSMatchesReferenceSpec Rows.vSSMatchesReferenceRow=true:=by kernel_rfl
theorem pL:(fun (P:Program) (f:FuncId) (fn:Func) (s:ChangeSpec) (c:OpenClaim)=>((c.loops == (fn.params.toList++s.plain.varTypes P).any (P.loopsFrom ·)):Bool)) Tryz.prog 5 Tryz.f5 Rows.vSSMatchesReferenceSpec Rows.vSSMatchesReferenceRow=true:=by kernel_rfl
theorem pM:(fun (P:Program) (f:FuncId) (fn:Func) (s:ChangeSpec) (c:OpenClaim)=>((c.wideKeys == (fn.params.toList++s.plain.varTypes P++fn.resultTypes.toList).any (P.wideKeysFrom ·)):Bool)) Tryz.prog 5 Tryz.f5 Rows.vSSMatchesReferenceSpec Rows.vSSMatchesReferenceRow=true:=by kernel_rfl
theorem pN:(fun (P:Program) (f:FuncId) (fn:Func) (s:ChangeSpec) (c:OpenClaim)=>(s.vars.all (P.varReadable ·):Bool)) Tryz.prog 5 Tryz.f5 Rows.vSSMatchesReferenceSpec Rows.vSSMatchesReferenceRow=true:=by kernel_rfl
theorem pO:(fun (P:Program) (f:FuncId) (fn:Func) (s:ChangeSpec) (c:OpenClaim)=>(fn.resultTypes.all (fun t=>P.readableRec t && decide (t < P.types.size)):Bool)) Tryz.prog 5 Tryz.f5 Rows.vSSMatchesReferenceSpec Rows.vSSMatchesReferenceRow=true:=by kernel_rfl
theorem pQ:(fun (P:Program) (f:FuncId) (fn:Func) (s:ChangeSpec) (c:OpenClaim)=>((c.ifacesOut == fn.resultTypes.toList.any (P.ifacesRec ·)):Bool)) Tryz.prog 5 Tryz.f5 Rows.vSSMatchesReferenceSpec Rows.vSSMatchesReferenceRow=true:=by kernel_rfl
theorem pR:(fun (P:Program) (f:FuncId) (fn:Func) (s:ChangeSpec) (c:OpenClaim)=>((c.loopsOut == fn.resultTypes.toList.any (P.loopsFrom ·)):Bool)) Tryz.prog 5 Tryz.f5 Rows.vSSMatchesReferenceSpec Rows.vSSMatchesReferenceRow=true:=by kernel_rfl
theorem pS:(fun (P:Program) (f:FuncId) (fn:Func) (s:ChangeSpec) (c:OpenClaim)=>((c.plainKeys == P.plainKeys):Bool)) Tryz.prog 5 Tryz.f5 Rows.vSSMatchesReferenceSpec Rows.vSSMatchesReferenceRow=true:=by kernel_rfl
theorem pT:(fun (P:Program) (f:FuncId) (fn:Func) (s:ChangeSpec) (c:OpenClaim)=>(c.shortTexts.isNone:Bool)) Tryz.prog 5 Tryz.f5 Rows.vSSMatchesReferenceSpec Rows.vSSMatchesReferenceRow=true:=by kernel_rfl
theorem pU:(fun (P:Program) (f:FuncId) (fn:Func) (s:ChangeSpec) (c:OpenClaim)=>((c.kinds == (if c.domain.isEmpty then [] else fn.params.toList.map fun t=>match P.underlying t with | some (.int k)=>some k | _=>none)):Bool)) Tryz.prog 5 Tryz.f5 Rows.vSSMatchesReferenceSpec Rows.vSSMatchesReferenceRow=true:=by kernel_rfl
theorem pV:(fun (P:Program) (f:FuncId) (fn:Func) (s:ChangeSpec) (c:OpenClaim)=>((c.pinned == c.pinnedBy):Bool)) Tryz.prog 5 Tryz.f5 Rows.vSSMatchesReferenceSpec Rows.vSSMatchesReferenceRow=true:=by kernel_rfl
theorem pW:(fun (P:Program) (f:FuncId) (fn:Func) (s:ChangeSpec) (c:OpenClaim)=>((c.veiled == (fn.params.toList++s.plain.varTypes P++fn.resultTypes.toList).any (P.veiledRec ·)):Bool)) Tryz.prog 5 Tryz.f5 Rows.vSSMatchesReferenceSpec Rows.vSSMatchesReferenceRow=true:=by kernel_rfl
theorem pX:(fun (P:Program) (f:FuncId) (fn:Func) (s:ChangeSpec) (c:OpenClaim)=>(c.veiledFits P fn.params.toList (fn.params.toList++s.plain.varTypes P++fn.resultTypes.toList):Bool)) Tryz.prog 5 Tryz.f5 Rows.vSSMatchesReferenceSpec Rows.vSSMatchesReferenceRow=true:=by kernel_rfl
set_option maxRecDepth 100000 in
theorem oi:joinedFacts Tryz.prog 5 Tryz.f5 Rows.vSSMatchesReferenceSpec Rows.vSSMatchesReferenceRow=true:=(ba (ba (ba (ba (ba (ba (ba (ba (ba (ba (ba (ba (ba (ba (ba (ba (ba (ba (ba (ba (ba (ba (ba (ba (ba (ba (ba (ba (ba (ba (ba qq LJ) LK) qs) qt) qu) LL) qv) LM) qw) pF) pG) pH) pI) pJ) pK) pL) pM) pN) pO) pQ) pR) pS) pT) K5) K6) FR) FT) pU) pV) pW) pX)
theorem oY:false=Rows.vSSMatchesReferenceRow.goesBy Tryz.prog:=by kernel_rfl
theorem qx:Rows.vSSMatchesReferenceRow.wfByText (OpenSpec.ofChange Rows.vSSMatchesReferenceSpec)=true:=by kernel_rfl
theorem pY:Rows.VSSMatchesReferenceSaid :=
  OpenClaim.holds_of_wide 5 Tryz.f5 rfl rfl rfl rfl rfl rfl rfl ⟨rfl,rfl,rfl,rfl,rfl⟩ rfl rfl rfl rfl rfl (by kernel_rfl) Tryz.func5 oi
    (of_decide_eq_true (by kernel_rfl)) (by unfold Func.isWrapper;first | (rw [if_pos (by decide +kernel)];kernel_rfl) | (rw [if_neg (by decide +kernel)];exact ⟨rfl,rfl⟩))
    (fun os started H enc _=>oj os started H enc)
theorem vSSMatchesReference_holds:Rows.VSSMatchesReferenceCardSaid :=
  Claim7.holds_tied_plain_at .later [] [.data] true (true, "54a06071e2c9ac4a59bf004b097d9bd6aae4a5a0dce0adb63097aaa15ca4d18f") false
    pY (fun _ h=>by cases h) qx (fun _ h=>by cases h) vSSMatchesReference_row_tie rfl ⟨rfl,rfl⟩ FS rfl
    (fun f fn hf hfn=>by
      obtain rfl : f = 5 := Option.some.inj ((show Tryz.prog.funcNamed "privity/privitylaw19.VSSMatchesReference" = some 5 by kernel_rfl).symm.trans hf) |>.symm
      obtain rfl:fn=Tryz.f5:=(Option.some.inj (Tryz.func5.symm.trans hfn)).symm
      exact ⟨Dc,fun j t ht=>by
        rw [Tryz.params5] at ht
        have hm:t ∈ [32]:=by simpa using Array.mem_of_getElem? ht
        have hall:([32].all fun u=>!Tryz.prog.wantsStandIn u)=true:=by kernel_rfl
        exact (show Tryz.prog.wantsStandIn t=false by simpa using List.all_eq_true.1 hall t hm)⟩)
    oY
#print axioms vSSMatchesReference_holds
end Go.Proofs.YtahofpgjianhdaaGreatDoor
