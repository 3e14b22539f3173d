/- Every choice of the numbers of a batch is reached by some choice of the honest dealers' secrets, whatever the corrupt dealers' secrets are; where nothing deviates, for at most seven parties. -/
import Derived.Test.YtkmbblnepjofaaaGreatDoorRn
import Derived.Test.YtkmbblnepjofaaaGreatDoorNRc3
import Derived.Test.YtkmbblnepjofaaaGreatDoorTp3
import Derived.Test.YtkmbblnepjofaaaGreatDoorCards
import Derived.Test.YtkmbblnepjofaaaGreatDoorTie
import Derived.Test.YtkmbblnepjofaaaGreatDoorTp2
import Derived.Test.YtkmbblnepjofaaaGreatDoorTf
import Derived.Test.YtkmbblnepjofaaaGreatDoorTg
import Derived.Test.YtkmbblnepjofaaaGreatDoorTh
import Derived.SevenTiedAt
import Derived.ProofKit
import Derived.LaidMore
import Derived.OpenShut
import Derived.Stop.Joined
set_option linter.unusedVariables false
namespace Go.Proofs.YtkmbblnepjofaaaGreatDoor
open Go Gv Gw Pu Go.ChangeShapes Go.WideShapes Go.ChangeAt Go.RowKit Go.Deep
theorem own:ownKnob Tryz.prog.godebug=none:=by kernel_rfl
theorem laidOut:laidOutB Tryz.prog=true:=by kernel_rfl
abbrev lay : List (String × DataW Unit) := [("privity/field.exps", Rows.laid_privity_field_exps)]
abbrev LO:List Value:=[.int .i64 ((5:Nat):Int),.int .i64 ((7:Nat):Int),.int .i64 ((13:Nat):Int),.int .i64 ((17:Nat):Int),.int .i64 ((19:Nat):Int),.int .i64 ((31:Nat):Int),.int .i64 ((61:Nat):Int)]
theorem HN : Tryz.prog.globalNamed "privity/field.exps" = some 0 := by kernel_rfl
theorem KX:(Tryz.prog.globals[0]?).map (·.type)=some 278:=by kernel_rfl
theorem CE (os:Os) (args:Array Value):laidMetH Tryz.prog lay ((World.doorLaid Tryz.prog 400 os).forCall (fun _ _=>0) ⟨#[],args,[]⟩).memory :=
  laidMetH_of_parts3 (fuel:=8) (laidMet_of_run' 8 (by kernel_rfl) (by kernel_rfl)) (by kernel_rfl) (by kernel_rfl)
theorem xj {W:World} (h:laidMetH Tryz.prog lay W):(Lw 0 LO).q (tS W):=by
  rw [MakeChecks.laidMetH_plain _ _ _ (by kernel_rfl)] at h
  obtain ⟨ps,⟨g0,t0,cs0,f0,p0,q0,hg0,ht0,hv0,hd0,_,_⟩,_,_⟩:=h
  obtain rfl:=Option.some.inj (HN.symm.trans hg0)
  obtain rfl:=Option.some.inj (KX.symm.trans ht0)
  have e:=Ck (zs:=[5,7,13,17,19,31,61]) Tryz.underlying278 Tryz.underlying3 (by kernel_rfl) (by kernel_rfl) hd0
  simp only [World.var?,HN,Option.bind_some] at hv0
  split at hv0
  · next c e1 f1 hh =>
    have hc:=Option.some.inj hv0
    subst hc
    have hlt:0 < W.heap.size:=by
      rcases Nat.eq_zero_or_pos W.heap.size with z | z
      · rw [Array.getElem?_eq_none (by omega)] at hh;cases hh
      · exact z
    refine ⟨hlt,e1,f1,?_⟩
    show W.heap[0]?=_
    rw [hh]
    obtain ⟨l⟩:=c
    have e2:l=LO:=e
    rw [e2]
  · cases hv0
def wx:Nat→Prop:=fun x:Nat=>x < 18446744073709551616
theorem H8:mO Tryz.prog 22 Kd.u64 wx:=BP Tryz.underlying22
def qe:Int→Prop:=fun x:Int => -9223372036854775808≤x∧x < 9223372036854775808
theorem EI:mO Tryz.prog 3 Kd.i64 qe:=BO Tryz.underlying3
instance:Inhabited aL:=⟨⟨default,default,default⟩⟩
def Dt:aL→Prop:=fun x:aL=>wx x.P∧qe x.N∧qe x.T
theorem LG:mO Tryz.prog 24 sX Dt:=qB (ok:=fun y:(Nat) × (Int) × (Int)=>wx y.1∧qe y.2.1∧qe y.2.2) (f:=fun x:aL=>(x.P,x.N,x.T)) (fun a:(Nat) × (Int) × (Int)=>⟨a.1,a.2.1,a.2.2⟩) (fun _=>rfl) Tryz.underlying24 (by kernel_rfl) (fu (by kernel_rfl) H8 (fu (by kernel_rfl) EI (sT (by kernel_rfl) EI) rfl) rfl)
def Du:List Int→Prop:=fun xs:List Int=>xs.length≤140737488355328∧∀ x ∈ xs,qe x
theorem LH:mO Tryz.prog 25 (Kd.sl Kd.i64) Du:=tt Tryz.underlying25 (by kernel_rfl) (by decide) (of_decide_eq_true (by kernel_rfl)) EI
instance:Inhabited aS:=⟨⟨default,default,default,default,default,default,default,default⟩⟩
def Dr:aS→Prop:=fun x:aS=>qe x.Round∧qe x.From∧qe x.To∧qe x.At∧qe x.Kind∧wx x.K∧qe x.Of∧qe x.bm
theorem J3:mO Tryz.prog 151 jA Dr:=qB (ok:=fun y:(Int) × (Int) × (Int) × (Int) × (Int) × (Nat) × (Int) × (Int)=>qe y.1∧qe y.2.1∧qe y.2.2.1∧qe y.2.2.2.1∧qe y.2.2.2.2.1∧wx y.2.2.2.2.2.1∧qe y.2.2.2.2.2.2.1∧qe y.2.2.2.2.2.2.2) (f:=fun x:aS=>(x.Round,x.From,x.To,x.At,x.Kind,x.K,x.Of,x.bm)) (fun a:(Int) × (Int) × (Int) × (Int) × (Int) × (Nat) × (Int) × (Int)=>⟨a.1,a.2.1,a.2.2.1,a.2.2.2.1,a.2.2.2.2.1,a.2.2.2.2.2.1,a.2.2.2.2.2.2.1,a.2.2.2.2.2.2.2⟩) (fun _=>rfl) Tryz.underlying151 (by kernel_rfl) (fu (by kernel_rfl) EI (fu (by kernel_rfl) EI (fu (by kernel_rfl) EI (fu (by kernel_rfl) EI (fu (by kernel_rfl) EI (fu (by kernel_rfl) H8 (fu (by kernel_rfl) EI (sT (by kernel_rfl) EI) rfl) rfl) rfl) rfl) rfl) rfl) rfl)
def Dw:List aS→Prop:=fun xs:List aS=>xs.length≤140737488355328∧∀ x ∈ xs,Dr x
theorem LI:mO Tryz.prog 26 (Kd.sl jA) Dw:=tt Tryz.underlying26 (by kernel_rfl) (by decide) (of_decide_eq_true (by kernel_rfl)) J3
def HT:List Nat→Prop:=fun xs:List Nat=>xs.length≤140737488355328∧∀ x ∈ xs,wx x
theorem J4:mO Tryz.prog 42 (Kd.sl Kd.u64) HT:=tt Tryz.underlying42 (by kernel_rfl) (by decide) (of_decide_eq_true (by kernel_rfl)) H8
def Dx:List (List Nat)→Prop:=fun xs:List (List Nat)=>xs.length≤140737488355328∧∀ x ∈ xs,HT x
theorem LJ:mO Tryz.prog 27 (Kd.sl (Kd.sl Kd.u64)) Dx:=tt Tryz.underlying27 (by kernel_rfl) (by decide) (of_decide_eq_true (by kernel_rfl)) J4
instance:Inhabited ab:=⟨⟨default,default,default,default⟩⟩
def Kw:ab→Prop:=fun x:ab=>Dt x.S∧Du x.af∧Dw x.aa∧Dx x.ax
theorem LK:mO Tryz.prog 29 rc Kw:=qB (ok:=fun y:(aL) × (List Int) × (List aS) × (List (List Nat))=>Dt y.1∧Du y.2.1∧Dw y.2.2.1∧Dx y.2.2.2) (f:=fun x:ab=>(x.S,x.af,x.aa,x.ax)) (fun a:(aL) × (List Int) × (List aS) × (List (List Nat))=>⟨a.1,a.2.1,a.2.2.1,a.2.2.2⟩) (fun _=>rfl) Tryz.underlying29 (by kernel_rfl) (fu (by kernel_rfl) LG (fu (by kernel_rfl) LH (fu (by kernel_rfl) LI (sT (by kernel_rfl) LJ) rfl) rfl) rfl)
set_option maxRecDepth 100000 in
theorem lf (os:Os) (started:os.Started) (H:Type) (enc:TypeId × Value→H) :
    ReturnsInHanded {} Tryz.checked os 4 .any (fun w args=>(Rows.randomnessAllValuesReachableSpec.pre enc Tryz.prog Tryz.f4 [] false w args∧laidMetH Tryz.prog lay w)∧sizedMet enc Tryz.prog Tryz.f4 (OpenSpec.ofChange Rows.randomnessAllValuesReachableSpec) false w args)
      (Rows.randomnessAllValuesReachableSpec.post enc Tryz.prog Tryz.f4 false true false false):=by
  refine returnsInHanded_of_change_and (C:=Tryz.checked) (X:=fun w _=>laidMetH Tryz.prog lay w) (fun _ _ _ hh h=>h.of_heap hh) own started (by kernel_rfl) Tryz.func4
    (ChangeSpec.witness_shaped (enc:=enc) (C:=Tryz.checked) (os:=os) (X:=fun w _=>laidMetH Tryz.prog lay w) false (World.doorLaid Tryz.prog 400 os) #[.agg #[.int .u64 0,.int .i64 0,.int .i64 0,.slice none 0 0,.slice none 0 0,.slice none 0 0],.slice none 0 0] 8 rfl (World.shaped_of_RefB (by kernel_rfl) (by kernel_rfl)) (by kernel_rfl) (by kernel_rfl) (by kernel_rfl) (CE os _)) ?_
  intro W base args ds gs before hval0 hW _ hsz hL _
  have hval:∀ (j:Nat) t v,Tryz.f4.params[j]?=some t→args[j]?=some v→Value.okWide Tryz.prog W .any base t v:=hval0
  have hsz1:(DataW.weightsEach Tryz.prog (Tryz.f4.params.toList++[]) (ds++gs)).all (·≤reachBytes)=true:=hsz
  have hW':=hW
  obtain ⟨p,q,hA0,hV,rfl,hfz,hnd⟩:=hW
  have hA:DataW.TrodAll enc Tryz.prog W 0 (fun _=>true) true Tryz.f4.params.toList args.toList ds p:=hA0
  rw [Tryz.params4] at hA hval hsz1
  obtain ⟨v0,vs0,d0,ds0,p0,q0,hargs,rfl,rfl,h0,r0⟩:=trodAll_cons hA
  obtain ⟨v1,vs1,d1,ds1,p1,q1,rfl,rfl,rfl,h1,r1⟩:=trodAll_cons r0
  obtain ⟨rfl,rfl,rfl⟩:=trodAll_nil r1
  obtain rfl:args=#[v0,v1]:=by cases args;simp_all
  obtain ⟨rfl,rfl⟩:=trodVars_none hV
  have k0:=h0
  have lt0:∀ x ∈ p0,x.block < W.heap.size:=by obtain ⟨m,hm⟩:=k0;exact DataW.trod_lt m _ _ _ hm
  have k1:=h1
  have lt1:∀ x ∈ p1,x.block < W.heap.size:=by obtain ⟨m,hm⟩:=k1;exact DataW.trod_lt m _ _ _ hm
  obtain ⟨x0,g0,rfl,iu,ok0⟩:=y6 Tryz.underlying29 LK (hval 0 29 v0 rfl rfl) h0 (tJ hsz1 0 29 d0 rfl rfl)
  obtain ⟨x1,it1,ok1⟩:=Bm Tryz.underlying42 J4 (hval 1 42 v1 rfl rfl) h1 (tJ hsz1 1 42 d1 rfl rfl)
  have hlaw:=Pu.we x0 x1 (fun x hx=>(ok0.2.2.1.2 x hx).2.2.2.2.2.1)
  have hpre:∀ a ∈ ((rc.items x0 g0)++[qn Kd.u64 v1 x1]++[Lw 0 LO]),a.bs=[]∧a.q (tS W):=by
    intro a ha
    rcases List.mem_append.1 ha with ha | ha
    · rcases List.mem_append.1 ha with ha | ha
      · exact iu a ha
      · rw [List.mem_singleton] at ha;subst ha;exact it1
    · rw [List.mem_singleton] at ha;subst ha;exact ⟨rfl,xj hL⟩
  refine (GM (jf hlaw) (fun v L h=>h.1) hpre).mono fun e W' ⟨he,bel⟩=>?_
  subst he
  exact ⟨_,rfl,_,_,_,[],_,[],hW',trodAll_mk1 (shut_bool Tryz.underlying4 _),(trodAll_cons_mk (Below.trod laidOut (by kernel_rfl) (of_decide_eq_true (by kernel_rfl)) k0 bel lt0) (trodAll_cons_mk (Below.trod laidOut (by kernel_rfl) (of_decide_eq_true (by kernel_rfl)) k1 bel lt1) trodAll_mk0)),rfl,bel.frame _,fun h=>by cases h⟩
theorem mH:(fun (P:Program) (f:FuncId) (fn:Func) (s:ChangeSpec) (c:OpenClaim)=>(c.wf (OpenSpec.ofChange s):Bool)) Tryz.prog 4 Tryz.f4 Rows.randomnessAllValuesReachableSpec Rows.randomnessAllValuesReachableRow=true:=by kernel_rfl
theorem mI:(fun (P:Program) (f:FuncId) (fn:Func) (s:ChangeSpec) (c:OpenClaim)=>(fn.params.all (P.readableRec ·):Bool)) Tryz.prog 4 Tryz.f4 Rows.randomnessAllValuesReachableSpec Rows.randomnessAllValuesReachableRow=true:=by kernel_rfl
theorem mJ:(fun (P:Program) (f:FuncId) (fn:Func) (s:ChangeSpec) (c:OpenClaim)=>(namedTie P c.named s.vars:Bool)) Tryz.prog 4 Tryz.f4 Rows.randomnessAllValuesReachableSpec Rows.randomnessAllValuesReachableRow=true:=by kernel_rfl
theorem mK:(fun (P:Program) (f:FuncId) (fn:Func) (s:ChangeSpec) (c:OpenClaim)=>((c.stops == []):Bool)) Tryz.prog 4 Tryz.f4 Rows.randomnessAllValuesReachableSpec Rows.randomnessAllValuesReachableRow=true:=by kernel_rfl
theorem mL:(fun (P:Program) (f:FuncId) (fn:Func) (s:ChangeSpec) (c:OpenClaim)=>((c.knobs == []):Bool)) Tryz.prog 4 Tryz.f4 Rows.randomnessAllValuesReachableSpec Rows.randomnessAllValuesReachableRow=true:=by kernel_rfl
theorem mM:(fun (P:Program) (f:FuncId) (fn:Func) (s:ChangeSpec) (c:OpenClaim)=>((c.inPlace == P.inPlace f):Bool)) Tryz.prog 4 Tryz.f4 Rows.randomnessAllValuesReachableSpec Rows.randomnessAllValuesReachableRow=true:=by kernel_rfl
theorem lX:(fun (P:Program) (f:FuncId) (fn:Func) (s:ChangeSpec) (c:OpenClaim)=>((c.unfollowed == P.unfollowed f):Bool)) Tryz.prog 4 Tryz.f4 Rows.randomnessAllValuesReachableSpec Rows.randomnessAllValuesReachableRow=true:=by kernel_rfl
theorem lY:(fun (P:Program) (f:FuncId) (fn:Func) (s:ChangeSpec) (c:OpenClaim)=>((c.recurses == P.recurses f):Bool)) Tryz.prog 4 Tryz.f4 Rows.randomnessAllValuesReachableSpec Rows.randomnessAllValuesReachableRow=true:=by kernel_rfl
theorem lZ:(fun (P:Program) (f:FuncId) (fn:Func) (s:ChangeSpec) (c:OpenClaim)=>((c.named == P.varsNamed f):Bool)) Tryz.prog 4 Tryz.f4 Rows.randomnessAllValuesReachableSpec Rows.randomnessAllValuesReachableRow=true:=by kernel_rfl
theorem ma:(fun (P:Program) (f:FuncId) (fn:Func) (s:ChangeSpec) (c:OpenClaim)=>((c.maps == (fn.params.toList++s.plain.varTypes P).any (P.mapsRec ·)):Bool)) Tryz.prog 4 Tryz.f4 Rows.randomnessAllValuesReachableSpec Rows.randomnessAllValuesReachableRow=true:=by kernel_rfl
theorem mb:(fun (P:Program) (f:FuncId) (fn:Func) (s:ChangeSpec) (c:OpenClaim)=>((c.ifaces == (fn.params.toList++s.plain.varTypes P).any (P.ifacesRec ·)):Bool)) Tryz.prog 4 Tryz.f4 Rows.randomnessAllValuesReachableSpec Rows.randomnessAllValuesReachableRow=true:=by kernel_rfl
theorem mc:(fun (P:Program) (f:FuncId) (fn:Func) (s:ChangeSpec) (c:OpenClaim)=>((c.mapsOut == P.mapsAmong fn.resultTypes.toList):Bool)) Tryz.prog 4 Tryz.f4 Rows.randomnessAllValuesReachableSpec Rows.randomnessAllValuesReachableRow=true:=by kernel_rfl
theorem md:(fun (P:Program) (f:FuncId) (fn:Func) (s:ChangeSpec) (c:OpenClaim)=>((c.loops == (fn.params.toList++s.plain.varTypes P).any (P.loopsFrom ·)):Bool)) Tryz.prog 4 Tryz.f4 Rows.randomnessAllValuesReachableSpec Rows.randomnessAllValuesReachableRow=true:=by kernel_rfl
theorem me:(fun (P:Program) (f:FuncId) (fn:Func) (s:ChangeSpec) (c:OpenClaim)=>((c.wideKeys == (fn.params.toList++s.plain.varTypes P++fn.resultTypes.toList).any (P.wideKeysFrom ·)):Bool)) Tryz.prog 4 Tryz.f4 Rows.randomnessAllValuesReachableSpec Rows.randomnessAllValuesReachableRow=true:=by kernel_rfl
theorem mf:(fun (P:Program) (f:FuncId) (fn:Func) (s:ChangeSpec) (c:OpenClaim)=>(s.vars.all (P.varReadable ·):Bool)) Tryz.prog 4 Tryz.f4 Rows.randomnessAllValuesReachableSpec Rows.randomnessAllValuesReachableRow=true:=by kernel_rfl
theorem mg:(fun (P:Program) (f:FuncId) (fn:Func) (s:ChangeSpec) (c:OpenClaim)=>(fn.resultTypes.all (fun t=>P.readableRec t && decide (t < P.types.size)):Bool)) Tryz.prog 4 Tryz.f4 Rows.randomnessAllValuesReachableSpec Rows.randomnessAllValuesReachableRow=true:=by kernel_rfl
theorem mh:(fun (P:Program) (f:FuncId) (fn:Func) (s:ChangeSpec) (c:OpenClaim)=>((c.ifacesOut == fn.resultTypes.toList.any (P.ifacesRec ·)):Bool)) Tryz.prog 4 Tryz.f4 Rows.randomnessAllValuesReachableSpec Rows.randomnessAllValuesReachableRow=true:=by kernel_rfl
theorem mi:(fun (P:Program) (f:FuncId) (fn:Func) (s:ChangeSpec) (c:OpenClaim)=>((c.loopsOut == fn.resultTypes.toList.any (P.loopsFrom ·)):Bool)) Tryz.prog 4 Tryz.f4 Rows.randomnessAllValuesReachableSpec Rows.randomnessAllValuesReachableRow=true:=by kernel_rfl
theorem mj:(fun (P:Program) (f:FuncId) (fn:Func) (s:ChangeSpec) (c:OpenClaim)=>((c.plainKeys == P.plainKeys):Bool)) Tryz.prog 4 Tryz.f4 Rows.randomnessAllValuesReachableSpec Rows.randomnessAllValuesReachableRow=true:=by kernel_rfl
theorem ml:(fun (P:Program) (f:FuncId) (fn:Func) (s:ChangeSpec) (c:OpenClaim)=>(c.shortTexts.isNone:Bool)) Tryz.prog 4 Tryz.f4 Rows.randomnessAllValuesReachableSpec Rows.randomnessAllValuesReachableRow=true:=by kernel_rfl
theorem mn:(fun (P:Program) (f:FuncId) (fn:Func) (s:ChangeSpec) (c:OpenClaim)=>((c.kinds == (if c.domain.isEmpty then [] else fn.params.toList.map fun t=>match P.underlying t with | some (.int k)=>some k | _=>none)):Bool)) Tryz.prog 4 Tryz.f4 Rows.randomnessAllValuesReachableSpec Rows.randomnessAllValuesReachableRow=true:=by kernel_rfl
theorem mo:(fun (P:Program) (f:FuncId) (fn:Func) (s:ChangeSpec) (c:OpenClaim)=>((c.pinned == c.pinnedBy):Bool)) Tryz.prog 4 Tryz.f4 Rows.randomnessAllValuesReachableSpec Rows.randomnessAllValuesReachableRow=true:=by kernel_rfl
theorem mp:(fun (P:Program) (f:FuncId) (fn:Func) (s:ChangeSpec) (c:OpenClaim)=>((c.veiled == (fn.params.toList++s.plain.varTypes P++fn.resultTypes.toList).any (P.veiledRec ·)):Bool)) Tryz.prog 4 Tryz.f4 Rows.randomnessAllValuesReachableSpec Rows.randomnessAllValuesReachableRow=true:=by kernel_rfl
theorem mq:(fun (P:Program) (f:FuncId) (fn:Func) (s:ChangeSpec) (c:OpenClaim)=>(c.veiledFits P fn.params.toList (fn.params.toList++s.plain.varTypes P++fn.resultTypes.toList):Bool)) Tryz.prog 4 Tryz.f4 Rows.randomnessAllValuesReachableSpec Rows.randomnessAllValuesReachableRow=true:=by kernel_rfl
set_option maxRecDepth 100000 in
theorem lc:joinedFacts Tryz.prog 4 Tryz.f4 Rows.randomnessAllValuesReachableSpec Rows.randomnessAllValuesReachableRow=true:=(ba (ba (ba (ba (ba (ba (ba (ba (ba (ba (ba (ba (ba (ba (ba (ba (ba (ba (ba (ba (ba (ba (ba (ba (ba (ba (ba (ba (ba (ba (ba mH MH) MI) mI) mJ) mK) MJ) mL) MK) mM) lX) lY) lZ) ma) mb) mc) md) me) mf) mg) mh) mi) mj) ml) L3) L4) G1) G3) mn) mo) mp) mq)
theorem lK:false=Rows.randomnessAllValuesReachableRow.goesBy Tryz.prog:=by kernel_rfl
theorem mN:Rows.randomnessAllValuesReachableRow.wfByText (OpenSpec.ofChange Rows.randomnessAllValuesReachableSpec)=true:=by kernel_rfl
theorem mr:Rows.RandomnessAllValuesReachableSaid :=
  OpenClaim.holds_of_wide 4 Tryz.f4 rfl rfl rfl rfl rfl rfl rfl ⟨rfl,rfl,rfl,rfl,rfl⟩ rfl rfl rfl rfl rfl (by kernel_rfl) Tryz.func4 lc
    (of_decide_eq_true (by kernel_rfl)) (by unfold Func.isWrapper;first | (rw [if_pos (by decide +kernel)];kernel_rfl) | (rw [if_neg (by decide +kernel)];exact ⟨rfl,rfl⟩))
    (fun os started H enc _=>lf os started H enc)
theorem randomnessAllValuesReachable_holds:Rows.RandomnessAllValuesReachableCardSaid :=
  Claim7.holds_tied_plain_at .later [] [.data] true (true, "00ae26d82973f8a5081b5b0fd7e1a56d18a2d4d51fce708aed4c10fa7199e597") false
    mr (fun _ h=>by cases h) mN (fun _ h=>by cases h) randomnessAllValuesReachable_row_tie rfl ⟨rfl,rfl⟩ G2 rfl
    (fun f fn hf hfn=>by
      obtain rfl : f = 4 := Option.some.inj ((show Tryz.prog.funcNamed "privity/privitylaw24.RandomnessAllValuesReachable" = some 4 by kernel_rfl).symm.trans hf) |>.symm
      obtain rfl:fn=Tryz.f4:=(Option.some.inj (Tryz.func4.symm.trans hfn)).symm
      exact ⟨DI,fun j t ht=>by
        rw [Tryz.params4] at ht
        have hm:t ∈ [29,42]:=by simpa using Array.mem_of_getElem? ht
        have hall:([29,42].all fun u=>!Tryz.prog.wantsStandIn u)=true:=by kernel_rfl
        exact (show Tryz.prog.wantsStandIn t=false by simpa using List.all_eq_true.1 hall t hm)⟩)
    lK
#print axioms randomnessAllValuesReachable_holds
end Go.Proofs.YtkmbblnepjofaaaGreatDoor
