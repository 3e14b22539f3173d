/- Eight rounds without deviations, eight or nine with them. -/
import Derived.Test.YtpjenmchinpgaaaGreatDoorRu
import Derived.Test.YtpjenmchinpgaaaGreatDoorUEc4
import Derived.Test.YtpjenmchinpgaaaGreatDoorTp3
import Derived.Test.YtpjenmchinpgaaaGreatDoorCards
import Derived.Test.YtpjenmchinpgaaaGreatDoorTie
import Derived.Test.YtpjenmchinpgaaaGreatDoorTp2
import Derived.Test.YtpjenmchinpgaaaGreatDoorTf
import Derived.Test.YtpjenmchinpgaaaGreatDoorTg
import Derived.Test.YtpjenmchinpgaaaGreatDoorTh
import Derived.SevenTiedAt
import Derived.ProofKit
import Derived.LaidMore
import Derived.OpenShut
import Derived.Stop.Joined
set_option linter.unusedVariables false
namespace Go.Proofs.YtpjenmchinpgaaaGreatDoor
open Go Gv Gw Pu Go.ChangeShapes Go.WideShapes Go.ChangeAt Go.RowKit Go.Deep
theorem own:ownKnob Tryz.prog.godebug=none:=by kernel_rfl
theorem laidOut:laidOutB Tryz.prog=true:=by kernel_rfl
abbrev lay : List (String × DataW Unit) := [("privity/field.exps", Rows.laid_privity_field_exps)]
abbrev PU:List Value:=[.int .i64 ((5:Nat):Int),.int .i64 ((7:Nat):Int),.int .i64 ((13:Nat):Int),.int .i64 ((17:Nat):Int),.int .i64 ((19:Nat):Int),.int .i64 ((31:Nat):Int),.int .i64 ((61:Nat):Int)]
theorem Lg : Tryz.prog.globalNamed "privity/field.exps" = some 0 := by kernel_rfl
theorem OG:(Tryz.prog.globals[0]?).map (·.type)=some 250:=by kernel_rfl
theorem FU(os:Os)(args:Array Value):laidMetH Tryz.prog lay ((World.doorLaid Tryz.prog 400 os).forCall (λ_ _=>0) ⟨#[],args,[]⟩).memory :=
 laidMetH_of_parts3 (fuel:=8) (laidMet_of_run' 8 (by kernel_rfl) (by kernel_rfl)) (by kernel_rfl) (by kernel_rfl)
theorem Ad{W:World}(h:laidMetH Tryz.prog lay W):(Po 0 PU).q (xo W):=by
 rw[MakeChecks.laidMetH_plain _ _ _ (by kernel_rfl)] at h
 obtain⟨ps,⟨g0,t0,cs0,f0,p0,q0,hg0,ht0,hv0,hd0,_,_⟩,_,_⟩:=h
 obtain rfl:=Option.some.inj (Lg.symm.trans hg0)
 obtain rfl:=Option.some.inj (OG.symm.trans ht0)
 have e:=FE (zs:=[5,7,13,17,19,31,61]) Tryz.underlying250 Tryz.underlying3 (by kernel_rfl) (by kernel_rfl) hd0
 simp only[World.var?,Lg,Option.bind_some] at hv0
 split at hv0
 ·next c e1 f1 hh =>
  have hc:=Option.some.inj hv0
  subst hc
  have hlt:0<W.heap.size:=by
   rcases Nat.eq_zero_or_pos W.heap.size with z | z
   ·rw[Array.getElem?_eq_none (by omega)] at hh;cases hh
   ·exact z
  refine⟨hlt,e1,f1,?_⟩
  show W.heap[0]?=_
  rw[hh]
  obtain⟨l⟩:=c
  have e2:l=PU:=e
  rw[e2]
 ·cases hv0
def zh:Nat→Prop:=λx:Nat=>x<18446744073709551616
theorem LB:mW Tryz.prog 22 Kd.u64 zh:=EO Tryz.underlying22
def rj:Int→Prop:=λx:Int => -9223372036854775808≤x∧x<9223372036854775808
theorem Ic:mW Tryz.prog 3 Kd.i64 rj:=EN Tryz.underlying3
instance:Inhabited aF:=⟨⟨default,default,default⟩⟩
def GY:aF→Prop:=λx:aF=>zh x.P∧rj x.N∧rj x.T
theorem PI:mW Tryz.prog 24 vt GY:=rV (ok:=λy:(Nat)×(Int)×(Int)=>zh y.1∧rj y.2.1∧rj y.2.2) (f:=λx:aF=>(x.P,x.N,x.T)) (λa:(Nat)×(Int)×(Int)=>⟨a.1,a.2.1,a.2.2⟩) (λ_=>rfl) Tryz.underlying24 (by kernel_rfl) (fO (by kernel_rfl) LB (fO (by kernel_rfl) Ic (vj (by kernel_rfl) Ic) rfl) rfl)
def GZ:List Int→Prop:=λxs:List Int=>xs.length≤140737488355328∧∀x∈xs,rj x
theorem PK:mW Tryz.prog 25 (Kd.sl Kd.i64) GZ:=vP Tryz.underlying25 (by kernel_rfl) (by decide) (of_decide_eq_true (by kernel_rfl)) Ic
instance:Inhabited aD:=⟨⟨default,default,default,default,default,default,default,default⟩⟩
def Lm:aD→Prop:=λx:aD=>rj x.Round∧rj x.From∧rj x.To∧rj x.At∧rj x.Kind∧zh x.K∧rj x.Of∧rj x.bG
theorem PP:mW Tryz.prog 60 ku Lm:=rV (ok:=λy:(Int)×(Int)×(Int)×(Int)×(Int)×(Nat)×(Int)×(Int)=>rj y.1∧rj y.2.1∧rj y.2.2.1∧rj y.2.2.2.1∧rj y.2.2.2.2.1∧zh y.2.2.2.2.2.1∧rj y.2.2.2.2.2.2.1∧rj y.2.2.2.2.2.2.2) (f:=λx:aD=>(x.Round,x.From,x.To,x.At,x.Kind,x.K,x.Of,x.bG)) (λa:(Int)×(Int)×(Int)×(Int)×(Int)×(Nat)×(Int)×(Int)=>⟨a.1,a.2.1,a.2.2.1,a.2.2.2.1,a.2.2.2.2.1,a.2.2.2.2.2.1,a.2.2.2.2.2.2.1,a.2.2.2.2.2.2.2⟩) (λ_=>rfl) Tryz.underlying60 (by kernel_rfl) (fO (by kernel_rfl) Ic (fO (by kernel_rfl) Ic (fO (by kernel_rfl) Ic (fO (by kernel_rfl) Ic (fO (by kernel_rfl) Ic (fO (by kernel_rfl) LB (fO (by kernel_rfl) Ic (vj (by kernel_rfl) Ic) rfl) rfl) rfl) rfl) rfl) rfl) rfl)
def G0:List aD→Prop:=λxs:List aD=>xs.length≤140737488355328∧∀x∈xs,Lm x
theorem PL:mW Tryz.prog 26 (Kd.sl ku) G0:=vP Tryz.underlying26 (by kernel_rfl) (by decide) (of_decide_eq_true (by kernel_rfl)) PP
def Ll:List Nat→Prop:=λxs:List Nat=>xs.length≤140737488355328∧∀x∈xs,zh x
theorem PO:mW Tryz.prog 51 (Kd.sl Kd.u64) Ll:=vP Tryz.underlying51 (by kernel_rfl) (by decide) (of_decide_eq_true (by kernel_rfl)) LB
def G1:List (List Nat)→Prop:=λxs:List (List Nat)=>xs.length≤140737488355328∧∀x∈xs,Ll x
theorem PM:mW Tryz.prog 27 (Kd.sl (Kd.sl Kd.u64)) G1:=vP Tryz.underlying27 (by kernel_rfl) (by decide) (of_decide_eq_true (by kernel_rfl)) PO
instance:Inhabited ae:=⟨⟨default,default,default,default⟩⟩
def Oc:ae→Prop:=λx:ae=>GY x.S∧GZ x.af∧G0 x.aa∧G1 x.ay
theorem PN:mW Tryz.prog 29 sG Oc:=rV (ok:=λy:(aF)×(List Int)×(List aD)×(List (List Nat))=>GY y.1∧GZ y.2.1∧G0 y.2.2.1∧G1 y.2.2.2) (f:=λx:ae=>(x.S,x.af,x.aa,x.ay)) (λa:(aF)×(List Int)×(List aD)×(List (List Nat))=>⟨a.1,a.2.1,a.2.2.1,a.2.2.2⟩) (λ_=>rfl) Tryz.underlying29 (by kernel_rfl) (fO (by kernel_rfl) PI (fO (by kernel_rfl) PK (fO (by kernel_rfl) PL (vj (by kernel_rfl) PM) rfl) rfl) rfl)
def P9:Nat→Prop:=λx:Nat=>x<256
theorem Rm:mW Tryz.prog 5 Kd.u8 P9:=G3 Tryz.underlying5
set_option maxRecDepth 100000 in
theorem ry(os:Os)(started:os.Started)(H:Type)(enc:TypeId×Value→H) :
  ReturnsInHanded {} Tryz.checked os 7 .any (λw args=>(Rows.tripleRoundCountSpec.pre enc Tryz.prog Tryz.f7 [] false w args∧laidMetH Tryz.prog lay w)∧sizedMet enc Tryz.prog Tryz.f7 (OpenSpec.ofChange Rows.tripleRoundCountSpec) false w args)
   (Rows.tripleRoundCountSpec.post enc Tryz.prog Tryz.f7 false true false false):=by
 refine returnsInHanded_of_change_and (C:=Tryz.checked) (X:=λw _=>laidMetH Tryz.prog lay w) (λ_ _ _ hh h=>h.of_heap hh) own started (by kernel_rfl) Tryz.func7
  (ChangeSpec.witness_shaped (enc:=enc) (C:=Tryz.checked) (os:=os) (X:=λw _=>laidMetH Tryz.prog lay w) false (World.doorLaid Tryz.prog 400 os) #[.agg #[.int .u64 0,.int .i64 0,.int .i64 0,.slice none 0 0,.slice none 0 0,.slice none 0 0],.int .u8 0] 8 rfl (World.shaped_of_RefB (by kernel_rfl) (by kernel_rfl)) (by kernel_rfl) (by kernel_rfl) (by kernel_rfl) (FU os _)) ?_
 intro W base args ds gs before hval0 hW _ hsz hL _
 have hval:∀(j:Nat) t v,Tryz.f7.params[j]?=some t→args[j]?=some v→Value.okWide Tryz.prog W .any base t v:=hval0
 have hsz1:(DataW.weightsEach Tryz.prog (Tryz.f7.params.toList++[]) (ds++gs)).all (·≤reachBytes)=true:=hsz
 have hW':=hW
 obtain⟨p,q,P0,hV,rfl,hfz,hnd⟩:=hW
 have hA:DataW.TrodAll enc Tryz.prog W 0 (λ_=>true) true Tryz.f7.params.toList args.toList ds p:=P0
 rw[Tryz.params7] at hA hval hsz1
 obtain⟨v0,vs0,d0,ds0,p0,q0,hargs,rfl,rfl,h0,r0⟩:=trodAll_cons hA
 obtain⟨v1,vs1,d1,ds1,p1,q1,rfl,rfl,rfl,h1,r1⟩:=trodAll_cons r0
 obtain⟨rfl,rfl,rfl⟩:=trodAll_nil r1
 obtain rfl:args=#[v0,v1]:=by cases args;simp_all
 obtain⟨rfl,rfl⟩:=trodVars_none hV
 have k0:=h0
 have lt0:∀x∈p0,x.block<W.heap.size:=by obtain⟨m,hm⟩:=k0;exact DataW.trod_lt m _ _ _ hm
 have k1:=h1
 have lt1:∀x∈p1,x.block<W.heap.size:=by obtain⟨m,hm⟩:=k1;exact DataW.trod_lt m _ _ _ hm
 obtain⟨x0,g0,rfl,gR,ok0⟩:=Ck Tryz.underlying29 PN (hval 0 29 v0 rfl rfl) h0 (yP hsz1 0 29 d0 rfl rfl)
 obtain⟨x1,rfl,ok1⟩:=LF Tryz.underlying5 (hval 1 5 v1 rfl rfl) h1
 have hlaw:=Pu.CN x0 x1 (λx hx=>(ok0.2.2.1.2 x hx).2.2.2.2.2.1)
 have hpre:∀a∈((sG.items x0 g0)++[Po 0 PU]),a.bs=[]∧a.q (xo W):=by
  intro a ha
  rcases List.mem_append.1 ha with ha | ha
  ·exact gR a ha
  ·rw[List.mem_singleton] at ha;subst ha;exact⟨rfl,Ad hL⟩
 refine(J8 (ny hlaw) (λv L h=>h.1) hpre).mono λe W' ⟨he,bel⟩=>?_
 subst he
 exact⟨_,rfl,_,_,_,[],_,[],hW',trodAll_mk1 (shut_bool Tryz.underlying4 _),(trodAll_cons_mk (Below.trod laidOut (by kernel_rfl) (of_decide_eq_true (by kernel_rfl)) k0 bel lt0) (trodAll_cons_mk (Below.trod laidOut (by kernel_rfl) (of_decide_eq_true (by kernel_rfl)) k1 bel lt1) trodAll_mk0)),rfl,bel.frame _,λh=>by cases h⟩
theorem uE:(λ(P:Program) (f:FuncId) (fn:Func) (s:ChangeSpec) (c:OpenClaim)=>(c.wf (OpenSpec.ofChange s):Bool)) Tryz.prog 7 Tryz.f7 Rows.tripleRoundCountSpec Rows.tripleRoundCountRow=true:=by kernel_rfl
theorem uF:(λ(P:Program) (f:FuncId) (fn:Func) (s:ChangeSpec) (c:OpenClaim)=>(fn.params.all (P.readableRec ·):Bool)) Tryz.prog 7 Tryz.f7 Rows.tripleRoundCountSpec Rows.tripleRoundCountRow=true:=by kernel_rfl
theorem uG:(λ(P:Program) (f:FuncId) (fn:Func) (s:ChangeSpec) (c:OpenClaim)=>(namedTie P c.named s.vars:Bool)) Tryz.prog 7 Tryz.f7 Rows.tripleRoundCountSpec Rows.tripleRoundCountRow=true:=by kernel_rfl
theorem uH:(λ(P:Program) (f:FuncId) (fn:Func) (s:ChangeSpec) (c:OpenClaim)=>((c.stops==[]):Bool)) Tryz.prog 7 Tryz.f7 Rows.tripleRoundCountSpec Rows.tripleRoundCountRow=true:=by kernel_rfl
theorem uI:(λ(P:Program) (f:FuncId) (fn:Func) (s:ChangeSpec) (c:OpenClaim)=>((c.knobs==[]):Bool)) Tryz.prog 7 Tryz.f7 Rows.tripleRoundCountSpec Rows.tripleRoundCountRow=true:=by kernel_rfl
theorem uJ:(λ(P:Program) (f:FuncId) (fn:Func) (s:ChangeSpec) (c:OpenClaim)=>((c.inPlace==P.inPlace f):Bool)) Tryz.prog 7 Tryz.f7 Rows.tripleRoundCountSpec Rows.tripleRoundCountRow=true:=by kernel_rfl
theorem tJ:(λ(P:Program) (f:FuncId) (fn:Func) (s:ChangeSpec) (c:OpenClaim)=>((c.unfollowed==P.unfollowed f):Bool)) Tryz.prog 7 Tryz.f7 Rows.tripleRoundCountSpec Rows.tripleRoundCountRow=true:=by kernel_rfl
theorem tK:(λ(P:Program) (f:FuncId) (fn:Func) (s:ChangeSpec) (c:OpenClaim)=>((c.recurses==P.recurses f):Bool)) Tryz.prog 7 Tryz.f7 Rows.tripleRoundCountSpec Rows.tripleRoundCountRow=true:=by kernel_rfl
theorem tL:(λ(P:Program) (f:FuncId) (fn:Func) (s:ChangeSpec) (c:OpenClaim)=>((c.named==P.varsNamed f):Bool)) Tryz.prog 7 Tryz.f7 Rows.tripleRoundCountSpec Rows.tripleRoundCountRow=true:=by kernel_rfl
theorem tM:(λ(P:Program) (f:FuncId) (fn:Func) (s:ChangeSpec) (c:OpenClaim)=>((c.maps==(fn.params.toList++s.plain.varTypes P).any (P.mapsRec ·)):Bool)) Tryz.prog 7 Tryz.f7 Rows.tripleRoundCountSpec Rows.tripleRoundCountRow=true:=by kernel_rfl
theorem tN:(λ(P:Program) (f:FuncId) (fn:Func) (s:ChangeSpec) (c:OpenClaim)=>((c.ifaces==(fn.params.toList++s.plain.varTypes P).any (P.ifacesRec ·)):Bool)) Tryz.prog 7 Tryz.f7 Rows.tripleRoundCountSpec Rows.tripleRoundCountRow=true:=by kernel_rfl
theorem tO:(λ(P:Program) (f:FuncId) (fn:Func) (s:ChangeSpec) (c:OpenClaim)=>((c.mapsOut==P.mapsAmong fn.resultTypes.toList):Bool)) Tryz.prog 7 Tryz.f7 Rows.tripleRoundCountSpec Rows.tripleRoundCountRow=true:=by kernel_rfl
theorem tP:(λ(P:Program) (f:FuncId) (fn:Func) (s:ChangeSpec) (c:OpenClaim)=>((c.loops==(fn.params.toList++s.plain.varTypes P).any (P.loopsFrom ·)):Bool)) Tryz.prog 7 Tryz.f7 Rows.tripleRoundCountSpec Rows.tripleRoundCountRow=true:=by kernel_rfl
theorem tQ:(λ(P:Program) (f:FuncId) (fn:Func) (s:ChangeSpec) (c:OpenClaim)=>((c.wideKeys==(fn.params.toList++s.plain.varTypes P++fn.resultTypes.toList).any (P.wideKeysFrom ·)):Bool)) Tryz.prog 7 Tryz.f7 Rows.tripleRoundCountSpec Rows.tripleRoundCountRow=true:=by kernel_rfl
theorem tR:(λ(P:Program) (f:FuncId) (fn:Func) (s:ChangeSpec) (c:OpenClaim)=>(s.vars.all (P.varReadable ·):Bool)) Tryz.prog 7 Tryz.f7 Rows.tripleRoundCountSpec Rows.tripleRoundCountRow=true:=by kernel_rfl
theorem tS:(λ(P:Program) (f:FuncId) (fn:Func) (s:ChangeSpec) (c:OpenClaim)=>(fn.resultTypes.all (λt=>P.readableRec t&&decide (t<P.types.size)):Bool)) Tryz.prog 7 Tryz.f7 Rows.tripleRoundCountSpec Rows.tripleRoundCountRow=true:=by kernel_rfl
theorem tT:(λ(P:Program) (f:FuncId) (fn:Func) (s:ChangeSpec) (c:OpenClaim)=>((c.ifacesOut==fn.resultTypes.toList.any (P.ifacesRec ·)):Bool)) Tryz.prog 7 Tryz.f7 Rows.tripleRoundCountSpec Rows.tripleRoundCountRow=true:=by kernel_rfl
theorem tU:(λ(P:Program) (f:FuncId) (fn:Func) (s:ChangeSpec) (c:OpenClaim)=>((c.loopsOut==fn.resultTypes.toList.any (P.loopsFrom ·)):Bool)) Tryz.prog 7 Tryz.f7 Rows.tripleRoundCountSpec Rows.tripleRoundCountRow=true:=by kernel_rfl
theorem tV:(λ(P:Program) (f:FuncId) (fn:Func) (s:ChangeSpec) (c:OpenClaim)=>((c.plainKeys==P.plainKeys):Bool)) Tryz.prog 7 Tryz.f7 Rows.tripleRoundCountSpec Rows.tripleRoundCountRow=true:=by kernel_rfl
theorem tW:(λ(P:Program) (f:FuncId) (fn:Func) (s:ChangeSpec) (c:OpenClaim)=>(c.shortTexts.isNone:Bool)) Tryz.prog 7 Tryz.f7 Rows.tripleRoundCountSpec Rows.tripleRoundCountRow=true:=by kernel_rfl
theorem tX:(λ(P:Program) (f:FuncId) (fn:Func) (s:ChangeSpec) (c:OpenClaim)=>((c.kinds==(if c.domain.isEmpty then[] else fn.params.toList.map λt=>match P.underlying t with | some (.int k)=>some k | _=>none)):Bool)) Tryz.prog 7 Tryz.f7 Rows.tripleRoundCountSpec Rows.tripleRoundCountRow=true:=by kernel_rfl
theorem tY:(λ(P:Program) (f:FuncId) (fn:Func) (s:ChangeSpec) (c:OpenClaim)=>((c.pinned==c.pinnedBy):Bool)) Tryz.prog 7 Tryz.f7 Rows.tripleRoundCountSpec Rows.tripleRoundCountRow=true:=by kernel_rfl
theorem tZ:(λ(P:Program) (f:FuncId) (fn:Func) (s:ChangeSpec) (c:OpenClaim)=>((c.veiled==(fn.params.toList++s.plain.varTypes P++fn.resultTypes.toList).any (P.veiledRec ·)):Bool)) Tryz.prog 7 Tryz.f7 Rows.tripleRoundCountSpec Rows.tripleRoundCountRow=true:=by kernel_rfl
theorem ua:(λ(P:Program) (f:FuncId) (fn:Func) (s:ChangeSpec) (c:OpenClaim)=>(c.veiledFits P fn.params.toList (fn.params.toList++s.plain.varTypes P++fn.resultTypes.toList):Bool)) Tryz.prog 7 Tryz.f7 Rows.tripleRoundCountSpec Rows.tripleRoundCountRow=true:=by kernel_rfl
set_option maxRecDepth 100000 in
theorem rx:joinedFacts Tryz.prog 7 Tryz.f7 Rows.tripleRoundCountSpec Rows.tripleRoundCountRow=true:=(ba (ba (ba (ba (ba (ba (ba (ba (ba (ba (ba (ba (ba (ba (ba (ba (ba (ba (ba (ba (ba (ba (ba (ba (ba (ba (ba (ba (ba (ba (ba uE Q8) Q9) uF) uG) uH) Ra) uI) Rb) uJ) tJ) tK) tL) tM) tN) tO) tP) tQ) tR) tS) tT) tU) tV) tW) Qc) Qd) Ko) Kq) tX) tY) tZ) ua)
theorem sF:false=Rows.tripleRoundCountRow.goesBy Tryz.prog:=by kernel_rfl
theorem uK:Rows.tripleRoundCountRow.wfByText (OpenSpec.ofChange Rows.tripleRoundCountSpec)=true:=by kernel_rfl
theorem ub:Rows.TripleRoundCountSaid :=
 OpenClaim.holds_of_wide 7 Tryz.f7 rfl rfl rfl rfl rfl rfl rfl ⟨rfl,rfl,rfl,rfl,rfl⟩ rfl rfl rfl rfl rfl (by kernel_rfl) Tryz.func7 rx
  (of_decide_eq_true (by kernel_rfl)) (by unfold Func.isWrapper;first | (rw[if_pos (by decide +kernel)];kernel_rfl) | (rw[if_neg (by decide +kernel)];exact⟨rfl,rfl⟩))
  (λos started H enc _=>ry os started H enc)
theorem tripleRoundCount_holds:Rows.TripleRoundCountCardSaid :=
  Claim7.holds_tied_plain_at .later [] [.data] true (true, "e2ad1b46d66589fd1320099ce90bc2556f02fc8d380b0d61ab7b9004b1e81e27") false
    ub (fun _ h=>by cases h) uK (fun _ h=>by cases h) tripleRoundCount_row_tie rfl ⟨rfl,rfl⟩ Kp rfl
    (fun f fn hf hfn=>by
      obtain rfl : f = 7 := Option.some.inj ((show Tryz.prog.funcNamed "privity/privitylaw22.TripleRoundCount" = some 7 by kernel_rfl).symm.trans hf) |>.symm
      obtain rfl:fn=Tryz.f7:=(Option.some.inj (Tryz.func7.symm.trans hfn)).symm
      exact ⟨Hc,fun j t ht=>by
        rw [Tryz.params7] at ht
        have hm:t ∈ [29,5]:=by simpa using Array.mem_of_getElem? ht
        have hall:([29,5].all fun u=>!Tryz.prog.wantsStandIn u)=true:=by kernel_rfl
        exact (show Tryz.prog.wantsStandIn t=false by simpa using List.all_eq_true.1 hall t hm)⟩)
    sF
#print axioms tripleRoundCount_holds
end Go.Proofs.YtpjenmchinpgaaaGreatDoor
