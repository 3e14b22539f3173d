/- Refreshing a sharing again and again keeps its secret in every scenario. No conditions beyond those of the statement. -/
import Derived.Test.YthdaobopefbpeaaGreatDoorRg
import Derived.Test.YthdaobopefbpeaaGreatDoorMDc4
import Derived.Test.YthdaobopefbpeaaGreatDoorTp3
import Derived.Test.YthdaobopefbpeaaGreatDoorCards
import Derived.Test.YthdaobopefbpeaaGreatDoorTie
import Derived.Test.YthdaobopefbpeaaGreatDoorTp2
import Derived.Test.YthdaobopefbpeaaGreatDoorTf
import Derived.Test.YthdaobopefbpeaaGreatDoorTg
import Derived.Test.YthdaobopefbpeaaGreatDoorTh
import Derived.SevenTiedAt
import Derived.ProofKit
import Derived.LaidMore
import Derived.OpenShut
import Derived.Stop.Joined
set_option linter.unusedVariables false
namespace Go.Proofs.YthdaobopefbpeaaGreatDoor
open Go Gv Gw Pu Go.ChangeShapes Go.WideShapes Go.ChangeAt Go.RowKit Go.Deep
theorem own:ownKnob Tryz.prog.godebug=none:=by kernel_rfl
theorem laidOut:laidOutB Tryz.prog=true:=by kernel_rfl
abbrev lay : List (String × DataW Unit) := [("privity/field.exps", Rows.laid_privity_field_exps)]
abbrev OY:List Value:=[.int .i64 ((5:Nat):Int),.int .i64 ((7:Nat):Int),.int .i64 ((13:Nat):Int),.int .i64 ((17:Nat):Int),.int .i64 ((19:Nat):Int),.int .i64 ((31:Nat):Int),.int .i64 ((61:Nat):Int)]
theorem Kw : Tryz.prog.globalNamed "privity/field.exps" = some 0 := by kernel_rfl
theorem NP:(Tryz.prog.globals[0]?).map (·.type)=some 253:=by kernel_rfl
theorem E5 (os:Os) (args:Array Value):laidMetH Tryz.prog lay ((World.doorLaid Tryz.prog 400 os).forCall (fun _ _=>0) ⟨#[],args,[]⟩).memory :=
  laidMetH_of_parts3 (fuel:=8) (laidMet_of_run' 8 (by kernel_rfl) (by kernel_rfl)) (by kernel_rfl) (by kernel_rfl)
theorem zc {W:World} (h:laidMetH Tryz.prog lay W):(OA 0 OY).q (vQ W):=by
  rw [MakeChecks.laidMetH_plain _ _ _ (by kernel_rfl)] at h
  obtain ⟨ps,⟨g0,t0,cs0,f0,p0,q0,hg0,ht0,hv0,hd0,_,_⟩,_,_⟩:=h
  obtain rfl:=Option.some.inj (Kw.symm.trans hg0)
  obtain rfl:=Option.some.inj (NP.symm.trans ht0)
  have e:=EN (zs:=[5,7,13,17,19,31,61]) Tryz.underlying253 Tryz.underlying3 (by kernel_rfl) (by kernel_rfl) hd0
  simp only [World.var?,Kw,Option.bind_some] at hv0
  split at hv0
  · next c e1 f1 hh =>
    have hc:=Option.some.inj hv0
    subst hc
    have hlt:0 < W.heap.size:=by
      rcases Nat.eq_zero_or_pos W.heap.size with z | z
      · rw [Array.getElem?_eq_none (by omega)] at hh;cases hh
      · exact z
    refine ⟨hlt,e1,f1,?_⟩
    show W.heap[0]?=_
    rw [hh]
    obtain ⟨l⟩:=c
    have e2:l=OY:=e
    rw [e2]
  · cases hv0
def yw:Nat→Prop:=fun x:Nat=>x < 18446744073709551616
theorem KR:mA Tryz.prog 22 Kd.u64 yw:=D4 Tryz.underlying22
def qN:Int→Prop:=fun x:Int => -9223372036854775808≤x∧x < 9223372036854775808
theorem Hg:mA Tryz.prog 3 Kd.i64 qN:=D3 Tryz.underlying3
instance:Inhabited aM:=⟨⟨default,default,default⟩⟩
def F1:aM→Prop:=fun x:aM=>yw x.P∧qN x.N∧qN x.T
theorem OQ:mA Tryz.prog 24 uY F1:=rm (ok:=fun y:(Nat) × (Int) × (Int)=>yw y.1∧qN y.2.1∧qN y.2.2) (f:=fun x:aM=>(x.P,x.N,x.T)) (fun a:(Nat) × (Int) × (Int)=>⟨a.1,a.2.1,a.2.2⟩) (fun _=>rfl) Tryz.underlying24 (by kernel_rfl) (fB (by kernel_rfl) KR (fB (by kernel_rfl) Hg (uI (by kernel_rfl) Hg) rfl) rfl)
def F7:List Int→Prop:=fun xs:List Int=>xs.length≤140737488355328∧∀ x ∈ xs,qN x
theorem OR:mA Tryz.prog 25 (Kd.sl Kd.i64) F7:=vv Tryz.underlying25 (by kernel_rfl) (by decide) (of_decide_eq_true (by kernel_rfl)) Hg
instance:Inhabited aR:=⟨⟨default,default,default,default,default,default,default,default⟩⟩
def FZ:aR→Prop:=fun x:aR=>qN x.Round∧qN x.From∧qN x.To∧qN x.At∧qN x.Kind∧yw x.K∧qN x.Of∧qN x.bB
theorem MZ:mA Tryz.prog 130 jZ FZ:=rm (ok:=fun y:(Int) × (Int) × (Int) × (Int) × (Int) × (Nat) × (Int) × (Int)=>qN y.1∧qN y.2.1∧qN y.2.2.1∧qN y.2.2.2.1∧qN y.2.2.2.2.1∧yw y.2.2.2.2.2.1∧qN y.2.2.2.2.2.2.1∧qN y.2.2.2.2.2.2.2) (f:=fun x:aR=>(x.Round,x.From,x.To,x.At,x.Kind,x.K,x.Of,x.bB)) (fun a:(Int) × (Int) × (Int) × (Int) × (Int) × (Nat) × (Int) × (Int)=>⟨a.1,a.2.1,a.2.2.1,a.2.2.2.1,a.2.2.2.2.1,a.2.2.2.2.2.1,a.2.2.2.2.2.2.1,a.2.2.2.2.2.2.2⟩) (fun _=>rfl) Tryz.underlying130 (by kernel_rfl) (fB (by kernel_rfl) Hg (fB (by kernel_rfl) Hg (fB (by kernel_rfl) Hg (fB (by kernel_rfl) Hg (fB (by kernel_rfl) Hg (fB (by kernel_rfl) KR (fB (by kernel_rfl) Hg (uI (by kernel_rfl) Hg) rfl) rfl) rfl) rfl) rfl) rfl) rfl)
def F8:List aR→Prop:=fun xs:List aR=>xs.length≤140737488355328∧∀ x ∈ xs,FZ x
theorem OS:mA Tryz.prog 26 (Kd.sl jZ) F8:=vv Tryz.underlying26 (by kernel_rfl) (by decide) (of_decide_eq_true (by kernel_rfl)) MZ
def KB:List Nat→Prop:=fun xs:List Nat=>xs.length≤140737488355328∧∀ x ∈ xs,yw x
theorem OU:mA Tryz.prog 58 (Kd.sl Kd.u64) KB:=vv Tryz.underlying58 (by kernel_rfl) (by decide) (of_decide_eq_true (by kernel_rfl)) KR
def F9:List (List Nat)→Prop:=fun xs:List (List Nat)=>xs.length≤140737488355328∧∀ x ∈ xs,KB x
theorem M1:mA Tryz.prog 27 (Kd.sl (Kd.sl Kd.u64)) F9:=vv Tryz.underlying27 (by kernel_rfl) (by decide) (of_decide_eq_true (by kernel_rfl)) OU
instance:Inhabited ae:=⟨⟨default,default,default,default⟩⟩
def Nv:ae→Prop:=fun x:ae=>F1 x.S∧F7 x.ah∧F8 x.aa∧F9 x.aA
theorem OT:mA Tryz.prog 29 rV Nv:=rm (ok:=fun y:(aM) × (List Int) × (List aR) × (List (List Nat))=>F1 y.1∧F7 y.2.1∧F8 y.2.2.1∧F9 y.2.2.2) (f:=fun x:ae=>(x.S,x.ah,x.aa,x.aA)) (fun a:(aM) × (List Int) × (List aR) × (List (List Nat))=>⟨a.1,a.2.1,a.2.2.1,a.2.2.2⟩) (fun _=>rfl) Tryz.underlying29 (by kernel_rfl) (fB (by kernel_rfl) OQ (fB (by kernel_rfl) OR (fB (by kernel_rfl) OS (uI (by kernel_rfl) M1) rfl) rfl) rfl)
def Pb:Nat→Prop:=fun x:Nat=>x < 256
theorem Qf:mA Tryz.prog 5 Kd.u8 Pb:=Ga Tryz.underlying5
set_option maxRecDepth 100000 in
theorem ry (os:Os) (started:os.Started) (H:Type) (enc:TypeId × Value→H) :
    ReturnsInHanded {} Tryz.checked os 6 .any (fun w args=>(Rows.refreshRepeatedSpec.pre enc Tryz.prog Tryz.f6 [] false w args∧laidMetH Tryz.prog lay w)∧sizedMet enc Tryz.prog Tryz.f6 (OpenSpec.ofChange Rows.refreshRepeatedSpec) false w args)
      (Rows.refreshRepeatedSpec.post enc Tryz.prog Tryz.f6 false true false false):=by
  refine returnsInHanded_of_change_and (C:=Tryz.checked) (X:=fun w _=>laidMetH Tryz.prog lay w) (fun _ _ _ hh h=>h.of_heap hh) own started (by kernel_rfl) Tryz.func6
    (ChangeSpec.witness_shaped (enc:=enc) (C:=Tryz.checked) (os:=os) (X:=fun w _=>laidMetH Tryz.prog lay w) false (World.doorLaid Tryz.prog 400 os) #[.agg #[.int .u64 0,.int .i64 0,.int .i64 0,.slice none 0 0,.slice none 0 0,.slice none 0 0],.slice none 0 0,.int .u8 0] 8 rfl (World.shaped_of_RefB (by kernel_rfl) (by kernel_rfl)) (by kernel_rfl) (by kernel_rfl) (by kernel_rfl) (E5 os _)) ?_
  intro W base args ds gs before hval0 hW _ hsz hL _
  have hval:∀ (j:Nat) t v,Tryz.f6.params[j]?=some t→args[j]?=some v→Value.okWide Tryz.prog W .any base t v:=hval0
  have hsz1:(DataW.weightsEach Tryz.prog (Tryz.f6.params.toList++[]) (ds++gs)).all (·≤reachBytes)=true:=hsz
  have hW':=hW
  obtain ⟨p,q,hA0,hV,rfl,hfz,hnd⟩:=hW
  have hA:DataW.TrodAll enc Tryz.prog W 0 (fun _=>true) true Tryz.f6.params.toList args.toList ds p:=hA0
  rw [Tryz.params6] at hA hval hsz1
  obtain ⟨v0,vs0,d0,ds0,p0,q0,hargs,rfl,rfl,h0,r0⟩:=trodAll_cons hA
  obtain ⟨v1,vs1,d1,ds1,p1,q1,rfl,rfl,rfl,h1,r1⟩:=trodAll_cons r0
  obtain ⟨v2,vs2,d2,ds2,p2,q2,rfl,rfl,rfl,h2,r2⟩:=trodAll_cons r1
  obtain ⟨rfl,rfl,rfl⟩:=trodAll_nil r2
  obtain rfl:args=#[v0,v1,v2]:=by cases args;simp_all
  obtain ⟨rfl,rfl⟩:=trodVars_none hV
  have k0:=h0
  have lt0:∀ x ∈ p0,x.block < W.heap.size:=by obtain ⟨m,hm⟩:=k0;exact DataW.trod_lt m _ _ _ hm
  have k1:=h1
  have lt1:∀ x ∈ p1,x.block < W.heap.size:=by obtain ⟨m,hm⟩:=k1;exact DataW.trod_lt m _ _ _ hm
  have k2:=h2
  have lt2:∀ x ∈ p2,x.block < W.heap.size:=by obtain ⟨m,hm⟩:=k2;exact DataW.trod_lt m _ _ _ hm
  obtain ⟨x0,g0,rfl,fD,ok0⟩:=Bw Tryz.underlying29 OT (hval 0 29 v0 rfl rfl) h0 (vI hsz1 0 29 d0 rfl rfl)
  obtain ⟨x1,it1,ok1⟩:=Do Tryz.underlying27 M1 (hval 1 27 v1 rfl rfl) h1 (vI hsz1 1 27 d1 rfl rfl)
  obtain ⟨x2,rfl,ok2⟩:=KV Tryz.underlying5 (hval 2 5 v2 rfl rfl) h2
  have hlaw:=Pu.zA x0 x1 x2 (fun x hx=>(ok0.2.2.1.2 x hx).2.2.2.2.2.1) ok2
  have hpre:∀ a ∈ ((rV.items x0 g0)++[q8 (Kd.sl Kd.u64) v1 x1]++[OA 0 OY]),a.bs=[]∧a.q (vQ W):=by
    intro a ha
    rcases List.mem_append.1 ha with ha | ha
    · rcases List.mem_append.1 ha with ha | ha
      · exact fD a ha
      · rw [List.mem_singleton] at ha;subst ha;exact it1
    · rw [List.mem_singleton] at ha;subst ha;exact ⟨rfl,zc hL⟩
  refine (Jt (nA hlaw) (fun v L h=>h.1) hpre).mono fun e W' ⟨he,bel⟩=>?_
  subst he
  exact ⟨_,rfl,_,_,_,[],_,[],hW',trodAll_mk1 (shut_bool Tryz.underlying4 _),(trodAll_cons_mk (Below.trod laidOut (by kernel_rfl) (of_decide_eq_true (by kernel_rfl)) k0 bel lt0) (trodAll_cons_mk (Below.trod laidOut (by kernel_rfl) (of_decide_eq_true (by kernel_rfl)) k1 bel lt1) (trodAll_cons_mk (Below.trod laidOut (by kernel_rfl) (of_decide_eq_true (by kernel_rfl)) k2 bel lt2) trodAll_mk0))),rfl,bel.frame _,fun h=>by cases h⟩
theorem uJ:(fun (P:Program) (f:FuncId) (fn:Func) (s:ChangeSpec) (c:OpenClaim)=>(c.wf (OpenSpec.ofChange s):Bool)) Tryz.prog 6 Tryz.f6 Rows.refreshRepeatedSpec Rows.refreshRepeatedRow=true:=by kernel_rfl
theorem uK:(fun (P:Program) (f:FuncId) (fn:Func) (s:ChangeSpec) (c:OpenClaim)=>(fn.params.all (P.readableRec ·):Bool)) Tryz.prog 6 Tryz.f6 Rows.refreshRepeatedSpec Rows.refreshRepeatedRow=true:=by kernel_rfl
theorem uL:(fun (P:Program) (f:FuncId) (fn:Func) (s:ChangeSpec) (c:OpenClaim)=>(namedTie P c.named s.vars:Bool)) Tryz.prog 6 Tryz.f6 Rows.refreshRepeatedSpec Rows.refreshRepeatedRow=true:=by kernel_rfl
theorem uM:(fun (P:Program) (f:FuncId) (fn:Func) (s:ChangeSpec) (c:OpenClaim)=>((c.stops == []):Bool)) Tryz.prog 6 Tryz.f6 Rows.refreshRepeatedSpec Rows.refreshRepeatedRow=true:=by kernel_rfl
theorem uO:(fun (P:Program) (f:FuncId) (fn:Func) (s:ChangeSpec) (c:OpenClaim)=>((c.knobs == []):Bool)) Tryz.prog 6 Tryz.f6 Rows.refreshRepeatedSpec Rows.refreshRepeatedRow=true:=by kernel_rfl
theorem uP:(fun (P:Program) (f:FuncId) (fn:Func) (s:ChangeSpec) (c:OpenClaim)=>((c.inPlace == P.inPlace f):Bool)) Tryz.prog 6 Tryz.f6 Rows.refreshRepeatedSpec Rows.refreshRepeatedRow=true:=by kernel_rfl
theorem tO:(fun (P:Program) (f:FuncId) (fn:Func) (s:ChangeSpec) (c:OpenClaim)=>((c.unfollowed == P.unfollowed f):Bool)) Tryz.prog 6 Tryz.f6 Rows.refreshRepeatedSpec Rows.refreshRepeatedRow=true:=by kernel_rfl
theorem tP:(fun (P:Program) (f:FuncId) (fn:Func) (s:ChangeSpec) (c:OpenClaim)=>((c.recurses == P.recurses f):Bool)) Tryz.prog 6 Tryz.f6 Rows.refreshRepeatedSpec Rows.refreshRepeatedRow=true:=by kernel_rfl
theorem tQ:(fun (P:Program) (f:FuncId) (fn:Func) (s:ChangeSpec) (c:OpenClaim)=>((c.named == P.varsNamed f):Bool)) Tryz.prog 6 Tryz.f6 Rows.refreshRepeatedSpec Rows.refreshRepeatedRow=true:=by kernel_rfl
theorem tR:(fun (P:Program) (f:FuncId) (fn:Func) (s:ChangeSpec) (c:OpenClaim)=>((c.maps == (fn.params.toList++s.plain.varTypes P).any (P.mapsRec ·)):Bool)) Tryz.prog 6 Tryz.f6 Rows.refreshRepeatedSpec Rows.refreshRepeatedRow=true:=by kernel_rfl
theorem tS:(fun (P:Program) (f:FuncId) (fn:Func) (s:ChangeSpec) (c:OpenClaim)=>((c.ifaces == (fn.params.toList++s.plain.varTypes P).any (P.ifacesRec ·)):Bool)) Tryz.prog 6 Tryz.f6 Rows.refreshRepeatedSpec Rows.refreshRepeatedRow=true:=by kernel_rfl
theorem tT:(fun (P:Program) (f:FuncId) (fn:Func) (s:ChangeSpec) (c:OpenClaim)=>((c.mapsOut == P.mapsAmong fn.resultTypes.toList):Bool)) Tryz.prog 6 Tryz.f6 Rows.refreshRepeatedSpec Rows.refreshRepeatedRow=true:=by kernel_rfl
theorem tU:(fun (P:Program) (f:FuncId) (fn:Func) (s:ChangeSpec) (c:OpenClaim)=>((c.loops == (fn.params.toList++s.plain.varTypes P).any (P.loopsFrom ·)):Bool)) Tryz.prog 6 Tryz.f6 Rows.refreshRepeatedSpec Rows.refreshRepeatedRow=true:=by kernel_rfl
theorem tV:(fun (P:Program) (f:FuncId) (fn:Func) (s:ChangeSpec) (c:OpenClaim)=>((c.wideKeys == (fn.params.toList++s.plain.varTypes P++fn.resultTypes.toList).any (P.wideKeysFrom ·)):Bool)) Tryz.prog 6 Tryz.f6 Rows.refreshRepeatedSpec Rows.refreshRepeatedRow=true:=by kernel_rfl
theorem tW:(fun (P:Program) (f:FuncId) (fn:Func) (s:ChangeSpec) (c:OpenClaim)=>(s.vars.all (P.varReadable ·):Bool)) Tryz.prog 6 Tryz.f6 Rows.refreshRepeatedSpec Rows.refreshRepeatedRow=true:=by kernel_rfl
theorem tX:(fun (P:Program) (f:FuncId) (fn:Func) (s:ChangeSpec) (c:OpenClaim)=>(fn.resultTypes.all (fun t=>P.readableRec t && decide (t < P.types.size)):Bool)) Tryz.prog 6 Tryz.f6 Rows.refreshRepeatedSpec Rows.refreshRepeatedRow=true:=by kernel_rfl
theorem tY:(fun (P:Program) (f:FuncId) (fn:Func) (s:ChangeSpec) (c:OpenClaim)=>((c.ifacesOut == fn.resultTypes.toList.any (P.ifacesRec ·)):Bool)) Tryz.prog 6 Tryz.f6 Rows.refreshRepeatedSpec Rows.refreshRepeatedRow=true:=by kernel_rfl
theorem tZ:(fun (P:Program) (f:FuncId) (fn:Func) (s:ChangeSpec) (c:OpenClaim)=>((c.loopsOut == fn.resultTypes.toList.any (P.loopsFrom ·)):Bool)) Tryz.prog 6 Tryz.f6 Rows.refreshRepeatedSpec Rows.refreshRepeatedRow=true:=by kernel_rfl
theorem ua:(fun (P:Program) (f:FuncId) (fn:Func) (s:ChangeSpec) (c:OpenClaim)=>((c.plainKeys == P.plainKeys):Bool)) Tryz.prog 6 Tryz.f6 Rows.refreshRepeatedSpec Rows.refreshRepeatedRow=true:=by kernel_rfl
theorem ub:(fun (P:Program) (f:FuncId) (fn:Func) (s:ChangeSpec) (c:OpenClaim)=>(c.shortTexts.isNone:Bool)) Tryz.prog 6 Tryz.f6 Rows.refreshRepeatedSpec Rows.refreshRepeatedRow=true:=by kernel_rfl
theorem uc:(fun (P:Program) (f:FuncId) (fn:Func) (s:ChangeSpec) (c:OpenClaim)=>((c.kinds == (if c.domain.isEmpty then [] else fn.params.toList.map fun t=>match P.underlying t with | some (.int k)=>some k | _=>none)):Bool)) Tryz.prog 6 Tryz.f6 Rows.refreshRepeatedSpec Rows.refreshRepeatedRow=true:=by kernel_rfl
theorem ud:(fun (P:Program) (f:FuncId) (fn:Func) (s:ChangeSpec) (c:OpenClaim)=>((c.pinned == c.pinnedBy):Bool)) Tryz.prog 6 Tryz.f6 Rows.refreshRepeatedSpec Rows.refreshRepeatedRow=true:=by kernel_rfl
theorem ue:(fun (P:Program) (f:FuncId) (fn:Func) (s:ChangeSpec) (c:OpenClaim)=>((c.veiled == (fn.params.toList++s.plain.varTypes P++fn.resultTypes.toList).any (P.veiledRec ·)):Bool)) Tryz.prog 6 Tryz.f6 Rows.refreshRepeatedSpec Rows.refreshRepeatedRow=true:=by kernel_rfl
theorem uf:(fun (P:Program) (f:FuncId) (fn:Func) (s:ChangeSpec) (c:OpenClaim)=>(c.veiledFits P fn.params.toList (fn.params.toList++s.plain.varTypes P++fn.resultTypes.toList):Bool)) Tryz.prog 6 Tryz.f6 Rows.refreshRepeatedSpec Rows.refreshRepeatedRow=true:=by kernel_rfl
set_option maxRecDepth 100000 in
theorem rx:joinedFacts Tryz.prog 6 Tryz.f6 Rows.refreshRepeatedSpec Rows.refreshRepeatedRow=true:=(ba (ba (ba (ba (ba (ba (ba (ba (ba (ba (ba (ba (ba (ba (ba (ba (ba (ba (ba (ba (ba (ba (ba (ba (ba (ba (ba (ba (ba (ba (ba uJ P6) P7) uK) uL) uM) P8) uO) P9) uP) tO) tP) tQ) tR) tS) tT) tU) tV) tW) tX) tY) tZ) ua) ub) Pe) Pf) JJ) JL) uc) ud) ue) uf)
theorem sO:false=Rows.refreshRepeatedRow.goesBy Tryz.prog:=by kernel_rfl
theorem uQ:Rows.refreshRepeatedRow.wfByText (OpenSpec.ofChange Rows.refreshRepeatedSpec)=true:=by kernel_rfl
theorem ug:Rows.RefreshRepeatedSaid :=
  OpenClaim.holds_of_wide 6 Tryz.f6 rfl rfl rfl rfl rfl rfl rfl ⟨rfl,rfl,rfl,rfl,rfl⟩ rfl rfl rfl rfl rfl (by kernel_rfl) Tryz.func6 rx
    (of_decide_eq_true (by kernel_rfl)) (by unfold Func.isWrapper;first | (rw [if_pos (by decide +kernel)];kernel_rfl) | (rw [if_neg (by decide +kernel)];exact ⟨rfl,rfl⟩))
    (fun os started H enc _=>ry os started H enc)
theorem refreshRepeated_holds:Rows.RefreshRepeatedCardSaid :=
  Claim7.holds_tied_plain_at .later [] [.data] true (true, "c50bb092a4548bf55711e292c2d5b4d32e6f1ba79cbcab8b9b3c69cfcd11c3b3") false
    ug (fun _ h=>by cases h) uQ (fun _ h=>by cases h) refreshRepeated_row_tie rfl ⟨rfl,rfl⟩ JK rfl
    (fun f fn hf hfn=>by
      obtain rfl : f = 6 := Option.some.inj ((show Tryz.prog.funcNamed "privity/privitylaw46.RefreshRepeated" = some 6 by kernel_rfl).symm.trans hf) |>.symm
      obtain rfl:fn=Tryz.f6:=(Option.some.inj (Tryz.func6.symm.trans hfn)).symm
      exact ⟨Gk,fun j t ht=>by
        rw [Tryz.params6] at ht
        have hm:t ∈ [29,27,5]:=by simpa using Array.mem_of_getElem? ht
        have hall:([29,27,5].all fun u=>!Tryz.prog.wantsStandIn u)=true:=by kernel_rfl
        exact (show Tryz.prog.wantsStandIn t=false by simpa using List.all_eq_true.1 hall t hm)⟩)
    sO
#print axioms refreshRepeated_holds
end Go.Proofs.YthdaobopefbpeaaGreatDoor
