/- At least twice the threshold and one dealers are left, all honest ones among them. -/
import Derived.Test.YtpjenmchinpgaaaGreatDoorRu
import Derived.Test.YtpjenmchinpgaaaGreatDoorUBc4
import Derived.Test.YtpjenmchinpgaaaGreatDoorTp3
import Derived.Test.YtpjenmchinpgaaaGreatDoorCards
import Derived.Test.YtpjenmchinpgaaaGreatDoorTie
import Derived.Test.YtpjenmchinpgaaaGreatDoorTp2
import Derived.Test.YtpjenmchinpgaaaGreatDoorTf
import Derived.Test.YtpjenmchinpgaaaGreatDoorTg
import Derived.Test.YtpjenmchinpgaaaGreatDoorTh
import Derived.SevenTiedAt
import Derived.ProofKit
import Derived.LaidMore
import Derived.OpenShut
import Derived.Stop.Joined
set_option linter.unusedVariables false
namespace Go.Proofs.YtpjenmchinpgaaaGreatDoor
open Go Gv Gw Pu Go.ChangeShapes Go.WideShapes Go.ChangeAt Go.RowKit Go.Deep
theorem own:ownKnob Tryz.prog.godebug=none:=by kernel_rfl
theorem laidOut:laidOutB Tryz.prog=true:=by kernel_rfl
abbrev lay : List (String × DataW Unit) := [("privity/field.exps", Rows.laid_privity_field_exps)]
abbrev O1:List Value:=[.int .i64 ((5:Nat):Int),.int .i64 ((7:Nat):Int),.int .i64 ((13:Nat):Int),.int .i64 ((17:Nat):Int),.int .i64 ((19:Nat):Int),.int .i64 ((31:Nat):Int),.int .i64 ((61:Nat):Int)]
theorem Kq : Tryz.prog.globalNamed "privity/field.exps" = some 0 := by kernel_rfl
theorem NS:(Tryz.prog.globals[0]?).map (·.type)=some 250:=by kernel_rfl
theorem E8 (os:Os) (args:Array Value):laidMetH Tryz.prog lay ((World.doorLaid Tryz.prog 400 os).forCall (fun _ _=>0) ⟨#[],args,[]⟩).memory :=
  laidMetH_of_parts3 (fuel:=8) (laidMet_of_run' 8 (by kernel_rfl) (by kernel_rfl)) (by kernel_rfl) (by kernel_rfl)
theorem zJ {W:World} (h:laidMetH Tryz.prog lay W):(OA 0 O1).q (wH W):=by
  rw [MakeChecks.laidMetH_plain _ _ _ (by kernel_rfl)] at h
  obtain ⟨ps,⟨g0,t0,cs0,f0,p0,q0,hg0,ht0,hv0,hd0,_,_⟩,_,_⟩:=h
  obtain rfl:=Option.some.inj (Kq.symm.trans hg0)
  obtain rfl:=Option.some.inj (NS.symm.trans ht0)
  have e:=EO (zs:=[5,7,13,17,19,31,61]) Tryz.underlying250 Tryz.underlying3 (by kernel_rfl) (by kernel_rfl) hd0
  simp only [World.var?,Kq,Option.bind_some] at hv0
  split at hv0
  · next c e1 f1 hh =>
    have hc:=Option.some.inj hv0
    subst hc
    have hlt:0 < W.heap.size:=by
      rcases Nat.eq_zero_or_pos W.heap.size with z | z
      · rw [Array.getElem?_eq_none (by omega)] at hh;cases hh
      · exact z
    refine ⟨hlt,e1,f1,?_⟩
    show W.heap[0]?=_
    rw [hh]
    obtain ⟨l⟩:=c
    have e2:l=O1:=e
    rw [e2]
  · cases hv0
def yL:Nat→Prop:=fun x:Nat=>x < 18446744073709551616
theorem KQ:mn Tryz.prog 22 Kd.u64 yL:=D5 Tryz.underlying22
def rt:Int→Prop:=fun x:Int => -9223372036854775808≤x∧x < 9223372036854775808
theorem Hq:mn Tryz.prog 3 Kd.i64 rt:=D4 Tryz.underlying3
instance:Inhabited aD:=⟨⟨default,default,default⟩⟩
def Gc:aD→Prop:=fun x:aD=>yL x.P∧rt x.N∧rt x.T
theorem OQ:mn Tryz.prog 24 uU Gc:=sf (ok:=fun y:(Nat) × (Int) × (Int)=>yL y.1∧rt y.2.1∧rt y.2.2) (f:=fun x:aD=>(x.P,x.N,x.T)) (fun a:(Nat) × (Int) × (Int)=>⟨a.1,a.2.1,a.2.2⟩) (fun _=>rfl) Tryz.underlying24 (by kernel_rfl) (fG (by kernel_rfl) KQ (fG (by kernel_rfl) Hq (uO (by kernel_rfl) Hq) rfl) rfl)
def Gd:List Int→Prop:=fun xs:List Int=>xs.length≤140737488355328∧∀ x ∈ xs,rt x
theorem OR:mn Tryz.prog 25 (Kd.sl Kd.i64) Gd:=vn Tryz.underlying25 (by kernel_rfl) (by decide) (of_decide_eq_true (by kernel_rfl)) Hq
instance:Inhabited aO:=⟨⟨default,default,default,default,default,default,default,default⟩⟩
def Kz:aO→Prop:=fun x:aO=>rt x.Round∧rt x.From∧rt x.To∧rt x.At∧rt x.Kind∧yL x.K∧rt x.Of∧rt x.bF
theorem OW:mn Tryz.prog 60 jO Kz:=sf (ok:=fun y:(Int) × (Int) × (Int) × (Int) × (Int) × (Nat) × (Int) × (Int)=>rt y.1∧rt y.2.1∧rt y.2.2.1∧rt y.2.2.2.1∧rt y.2.2.2.2.1∧yL y.2.2.2.2.2.1∧rt y.2.2.2.2.2.2.1∧rt y.2.2.2.2.2.2.2) (f:=fun x:aO=>(x.Round,x.From,x.To,x.At,x.Kind,x.K,x.Of,x.bF)) (fun a:(Int) × (Int) × (Int) × (Int) × (Int) × (Nat) × (Int) × (Int)=>⟨a.1,a.2.1,a.2.2.1,a.2.2.2.1,a.2.2.2.2.1,a.2.2.2.2.2.1,a.2.2.2.2.2.2.1,a.2.2.2.2.2.2.2⟩) (fun _=>rfl) Tryz.underlying60 (by kernel_rfl) (fG (by kernel_rfl) Hq (fG (by kernel_rfl) Hq (fG (by kernel_rfl) Hq (fG (by kernel_rfl) Hq (fG (by kernel_rfl) Hq (fG (by kernel_rfl) KQ (fG (by kernel_rfl) Hq (uO (by kernel_rfl) Hq) rfl) rfl) rfl) rfl) rfl) rfl) rfl)
def Ge:List aO→Prop:=fun xs:List aO=>xs.length≤140737488355328∧∀ x ∈ xs,Kz x
theorem OS:mn Tryz.prog 26 (Kd.sl jO) Ge:=vn Tryz.underlying26 (by kernel_rfl) (by decide) (of_decide_eq_true (by kernel_rfl)) OW
def Ky:List Nat→Prop:=fun xs:List Nat=>xs.length≤140737488355328∧∀ x ∈ xs,yL x
theorem OV:mn Tryz.prog 51 (Kd.sl Kd.u64) Ky:=vn Tryz.underlying51 (by kernel_rfl) (by decide) (of_decide_eq_true (by kernel_rfl)) KQ
def Gf:List (List Nat)→Prop:=fun xs:List (List Nat)=>xs.length≤140737488355328∧∀ x ∈ xs,Ky x
theorem OT:mn Tryz.prog 27 (Kd.sl (Kd.sl Kd.u64)) Gf:=vn Tryz.underlying27 (by kernel_rfl) (by decide) (of_decide_eq_true (by kernel_rfl)) OV
instance:Inhabited ae:=⟨⟨default,default,default,default⟩⟩
def Nr:ae→Prop:=fun x:ae=>Gc x.S∧Gd x.af∧Ge x.aa∧Gf x.ay
theorem OU:mn Tryz.prog 29 sN Nr:=sf (ok:=fun y:(aD) × (List Int) × (List aO) × (List (List Nat))=>Gc y.1∧Gd y.2.1∧Ge y.2.2.1∧Gf y.2.2.2) (f:=fun x:ae=>(x.S,x.af,x.aa,x.ay)) (fun a:(aD) × (List Int) × (List aO) × (List (List Nat))=>⟨a.1,a.2.1,a.2.2.1,a.2.2.2⟩) (fun _=>rfl) Tryz.underlying29 (by kernel_rfl) (fG (by kernel_rfl) OQ (fG (by kernel_rfl) OR (fG (by kernel_rfl) OS (uO (by kernel_rfl) OT) rfl) rfl) rfl)
def Ph:Nat→Prop:=fun x:Nat=>x < 256
theorem Qw:mn Tryz.prog 5 Kd.u8 Ph:=Gi Tryz.underlying5
set_option maxRecDepth 100000 in
theorem mJ (os:Os) (started:os.Started) (H:Type) (enc:TypeId × Value→H) :
    ReturnsInHanded {} Tryz.checked os 5 .any (fun w args=>(Rows.tripleEnoughDealersRemainSpec.pre enc Tryz.prog Tryz.f5 [] false w args∧laidMetH Tryz.prog lay w)∧sizedMet enc Tryz.prog Tryz.f5 (OpenSpec.ofChange Rows.tripleEnoughDealersRemainSpec) false w args)
      (Rows.tripleEnoughDealersRemainSpec.post enc Tryz.prog Tryz.f5 false true false false):=by
  refine returnsInHanded_of_change_and (C:=Tryz.checked) (X:=fun w _=>laidMetH Tryz.prog lay w) (fun _ _ _ hh h=>h.of_heap hh) own started (by kernel_rfl) Tryz.func5
    (ChangeSpec.witness_shaped (enc:=enc) (C:=Tryz.checked) (os:=os) (X:=fun w _=>laidMetH Tryz.prog lay w) false (World.doorLaid Tryz.prog 400 os) #[.agg #[.int .u64 0,.int .i64 0,.int .i64 0,.slice none 0 0,.slice none 0 0,.slice none 0 0],.int .u8 0] 8 rfl (World.shaped_of_RefB (by kernel_rfl) (by kernel_rfl)) (by kernel_rfl) (by kernel_rfl) (by kernel_rfl) (E8 os _)) ?_
  intro W base args ds gs before hval0 hW _ hsz hL _
  have hval:∀ (j:Nat) t v,Tryz.f5.params[j]?=some t→args[j]?=some v→Value.okWide Tryz.prog W .any base t v:=hval0
  have hsz1:(DataW.weightsEach Tryz.prog (Tryz.f5.params.toList++[]) (ds++gs)).all (·≤reachBytes)=true:=hsz
  have hW':=hW
  obtain ⟨p,q,O6,hV,rfl,hfz,hnd⟩:=hW
  have hA:DataW.TrodAll enc Tryz.prog W 0 (fun _=>true) true Tryz.f5.params.toList args.toList ds p:=O6
  rw [Tryz.params5] at hA hval hsz1
  obtain ⟨v0,vs0,d0,ds0,p0,q0,hargs,rfl,rfl,h0,r0⟩:=trodAll_cons hA
  obtain ⟨v1,vs1,d1,ds1,p1,q1,rfl,rfl,rfl,h1,r1⟩:=trodAll_cons r0
  obtain ⟨rfl,rfl,rfl⟩:=trodAll_nil r1
  obtain rfl:args=#[v0,v1]:=by cases args;simp_all
  obtain ⟨rfl,rfl⟩:=trodVars_none hV
  have k0:=h0
  have lt0:∀ x ∈ p0,x.block < W.heap.size:=by obtain ⟨m,hm⟩:=k0;exact DataW.trod_lt m _ _ _ hm
  have k1:=h1
  have lt1:∀ x ∈ p1,x.block < W.heap.size:=by obtain ⟨m,hm⟩:=k1;exact DataW.trod_lt m _ _ _ hm
  obtain ⟨x0,g0,rfl,gJ,ok0⟩:=BU Tryz.underlying29 OU (hval 0 29 v0 rfl rfl) h0 (yh hsz1 0 29 d0 rfl rfl)
  obtain ⟨x1,rfl,ok1⟩:=KT Tryz.underlying5 (hval 1 5 v1 rfl rfl) h1
  have hlaw:=Pu.Ch x0 x1 (fun x hx=>(ok0.2.2.1.2 x hx).2.2.2.2.2.1)
  have hpre:∀ a ∈ ((sN.items x0 g0)++[OA 0 O1]),a.bs=[]∧a.q (wH W):=by
    intro a ha
    rcases List.mem_append.1 ha with ha | ha
    · exact gJ a ha
    · rw [List.mem_singleton] at ha;subst ha;exact ⟨rfl,zJ hL⟩
  refine (Js (jV hlaw) (fun v L h=>h.1) hpre).mono fun e W' ⟨he,bel⟩=>?_
  subst he
  exact ⟨_,rfl,_,_,_,[],_,[],hW',trodAll_mk1 (shut_bool Tryz.underlying4 _),(trodAll_cons_mk (Below.trod laidOut (by kernel_rfl) (of_decide_eq_true (by kernel_rfl)) k0 bel lt0) (trodAll_cons_mk (Below.trod laidOut (by kernel_rfl) (of_decide_eq_true (by kernel_rfl)) k1 bel lt1) trodAll_mk0)),rfl,bel.frame _,fun h=>by cases h⟩
theorem oU:(fun (P:Program) (f:FuncId) (fn:Func) (s:ChangeSpec) (c:OpenClaim)=>(c.wf (OpenSpec.ofChange s):Bool)) Tryz.prog 5 Tryz.f5 Rows.tripleEnoughDealersRemainSpec Rows.tripleEnoughDealersRemainRow=true:=by kernel_rfl
theorem oV:(fun (P:Program) (f:FuncId) (fn:Func) (s:ChangeSpec) (c:OpenClaim)=>(fn.params.all (P.readableRec ·):Bool)) Tryz.prog 5 Tryz.f5 Rows.tripleEnoughDealersRemainSpec Rows.tripleEnoughDealersRemainRow=true:=by kernel_rfl
theorem oW:(fun (P:Program) (f:FuncId) (fn:Func) (s:ChangeSpec) (c:OpenClaim)=>(namedTie P c.named s.vars:Bool)) Tryz.prog 5 Tryz.f5 Rows.tripleEnoughDealersRemainSpec Rows.tripleEnoughDealersRemainRow=true:=by kernel_rfl
theorem oX:(fun (P:Program) (f:FuncId) (fn:Func) (s:ChangeSpec) (c:OpenClaim)=>((c.stops == []):Bool)) Tryz.prog 5 Tryz.f5 Rows.tripleEnoughDealersRemainSpec Rows.tripleEnoughDealersRemainRow=true:=by kernel_rfl
theorem oY:(fun (P:Program) (f:FuncId) (fn:Func) (s:ChangeSpec) (c:OpenClaim)=>((c.knobs == []):Bool)) Tryz.prog 5 Tryz.f5 Rows.tripleEnoughDealersRemainSpec Rows.tripleEnoughDealersRemainRow=true:=by kernel_rfl
theorem oZ:(fun (P:Program) (f:FuncId) (fn:Func) (s:ChangeSpec) (c:OpenClaim)=>((c.inPlace == P.inPlace f):Bool)) Tryz.prog 5 Tryz.f5 Rows.tripleEnoughDealersRemainSpec Rows.tripleEnoughDealersRemainRow=true:=by kernel_rfl
theorem nR:(fun (P:Program) (f:FuncId) (fn:Func) (s:ChangeSpec) (c:OpenClaim)=>((c.unfollowed == P.unfollowed f):Bool)) Tryz.prog 5 Tryz.f5 Rows.tripleEnoughDealersRemainSpec Rows.tripleEnoughDealersRemainRow=true:=by kernel_rfl
theorem nS:(fun (P:Program) (f:FuncId) (fn:Func) (s:ChangeSpec) (c:OpenClaim)=>((c.recurses == P.recurses f):Bool)) Tryz.prog 5 Tryz.f5 Rows.tripleEnoughDealersRemainSpec Rows.tripleEnoughDealersRemainRow=true:=by kernel_rfl
theorem nU:(fun (P:Program) (f:FuncId) (fn:Func) (s:ChangeSpec) (c:OpenClaim)=>((c.named == P.varsNamed f):Bool)) Tryz.prog 5 Tryz.f5 Rows.tripleEnoughDealersRemainSpec Rows.tripleEnoughDealersRemainRow=true:=by kernel_rfl
theorem nW:(fun (P:Program) (f:FuncId) (fn:Func) (s:ChangeSpec) (c:OpenClaim)=>((c.maps == (fn.params.toList++s.plain.varTypes P).any (P.mapsRec ·)):Bool)) Tryz.prog 5 Tryz.f5 Rows.tripleEnoughDealersRemainSpec Rows.tripleEnoughDealersRemainRow=true:=by kernel_rfl
theorem nX:(fun (P:Program) (f:FuncId) (fn:Func) (s:ChangeSpec) (c:OpenClaim)=>((c.ifaces == (fn.params.toList++s.plain.varTypes P).any (P.ifacesRec ·)):Bool)) Tryz.prog 5 Tryz.f5 Rows.tripleEnoughDealersRemainSpec Rows.tripleEnoughDealersRemainRow=true:=by kernel_rfl
theorem nY:(fun (P:Program) (f:FuncId) (fn:Func) (s:ChangeSpec) (c:OpenClaim)=>((c.mapsOut == P.mapsAmong fn.resultTypes.toList):Bool)) Tryz.prog 5 Tryz.f5 Rows.tripleEnoughDealersRemainSpec Rows.tripleEnoughDealersRemainRow=true:=by kernel_rfl
theorem nZ:(fun (P:Program) (f:FuncId) (fn:Func) (s:ChangeSpec) (c:OpenClaim)=>((c.loops == (fn.params.toList++s.plain.varTypes P).any (P.loopsFrom ·)):Bool)) Tryz.prog 5 Tryz.f5 Rows.tripleEnoughDealersRemainSpec Rows.tripleEnoughDealersRemainRow=true:=by kernel_rfl
theorem n0:(fun (P:Program) (f:FuncId) (fn:Func) (s:ChangeSpec) (c:OpenClaim)=>((c.wideKeys == (fn.params.toList++s.plain.varTypes P++fn.resultTypes.toList).any (P.wideKeysFrom ·)):Bool)) Tryz.prog 5 Tryz.f5 Rows.tripleEnoughDealersRemainSpec Rows.tripleEnoughDealersRemainRow=true:=by kernel_rfl
theorem n1:(fun (P:Program) (f:FuncId) (fn:Func) (s:ChangeSpec) (c:OpenClaim)=>(s.vars.all (P.varReadable ·):Bool)) Tryz.prog 5 Tryz.f5 Rows.tripleEnoughDealersRemainSpec Rows.tripleEnoughDealersRemainRow=true:=by kernel_rfl
theorem n2:(fun (P:Program) (f:FuncId) (fn:Func) (s:ChangeSpec) (c:OpenClaim)=>(fn.resultTypes.all (fun t=>P.readableRec t && decide (t < P.types.size)):Bool)) Tryz.prog 5 Tryz.f5 Rows.tripleEnoughDealersRemainSpec Rows.tripleEnoughDealersRemainRow=true:=by kernel_rfl
theorem n3:(fun (P:Program) (f:FuncId) (fn:Func) (s:ChangeSpec) (c:OpenClaim)=>((c.ifacesOut == fn.resultTypes.toList.any (P.ifacesRec ·)):Bool)) Tryz.prog 5 Tryz.f5 Rows.tripleEnoughDealersRemainSpec Rows.tripleEnoughDealersRemainRow=true:=by kernel_rfl
theorem oa:(fun (P:Program) (f:FuncId) (fn:Func) (s:ChangeSpec) (c:OpenClaim)=>((c.loopsOut == fn.resultTypes.toList.any (P.loopsFrom ·)):Bool)) Tryz.prog 5 Tryz.f5 Rows.tripleEnoughDealersRemainSpec Rows.tripleEnoughDealersRemainRow=true:=by kernel_rfl
theorem oc:(fun (P:Program) (f:FuncId) (fn:Func) (s:ChangeSpec) (c:OpenClaim)=>((c.plainKeys == P.plainKeys):Bool)) Tryz.prog 5 Tryz.f5 Rows.tripleEnoughDealersRemainSpec Rows.tripleEnoughDealersRemainRow=true:=by kernel_rfl
theorem od:(fun (P:Program) (f:FuncId) (fn:Func) (s:ChangeSpec) (c:OpenClaim)=>(c.shortTexts.isNone:Bool)) Tryz.prog 5 Tryz.f5 Rows.tripleEnoughDealersRemainSpec Rows.tripleEnoughDealersRemainRow=true:=by kernel_rfl
theorem oe:(fun (P:Program) (f:FuncId) (fn:Func) (s:ChangeSpec) (c:OpenClaim)=>((c.kinds == (if c.domain.isEmpty then [] else fn.params.toList.map fun t=>match P.underlying t with | some (.int k)=>some k | _=>none)):Bool)) Tryz.prog 5 Tryz.f5 Rows.tripleEnoughDealersRemainSpec Rows.tripleEnoughDealersRemainRow=true:=by kernel_rfl
theorem og:(fun (P:Program) (f:FuncId) (fn:Func) (s:ChangeSpec) (c:OpenClaim)=>((c.pinned == c.pinnedBy):Bool)) Tryz.prog 5 Tryz.f5 Rows.tripleEnoughDealersRemainSpec Rows.tripleEnoughDealersRemainRow=true:=by kernel_rfl
theorem oh:(fun (P:Program) (f:FuncId) (fn:Func) (s:ChangeSpec) (c:OpenClaim)=>((c.veiled == (fn.params.toList++s.plain.varTypes P++fn.resultTypes.toList).any (P.veiledRec ·)):Bool)) Tryz.prog 5 Tryz.f5 Rows.tripleEnoughDealersRemainSpec Rows.tripleEnoughDealersRemainRow=true:=by kernel_rfl
theorem oi:(fun (P:Program) (f:FuncId) (fn:Func) (s:ChangeSpec) (c:OpenClaim)=>(c.veiledFits P fn.params.toList (fn.params.toList++s.plain.varTypes P++fn.resultTypes.toList):Bool)) Tryz.prog 5 Tryz.f5 Rows.tripleEnoughDealersRemainSpec Rows.tripleEnoughDealersRemainRow=true:=by kernel_rfl
set_option maxRecDepth 100000 in
theorem mI:joinedFacts Tryz.prog 5 Tryz.f5 Rows.tripleEnoughDealersRemainSpec Rows.tripleEnoughDealersRemainRow=true:=(ba (ba (ba (ba (ba (ba (ba (ba (ba (ba (ba (ba (ba (ba (ba (ba (ba (ba (ba (ba (ba (ba (ba (ba (ba (ba (ba (ba (ba (ba (ba oU Qj) Qk) oV) oW) oX) Qm) oY) Qn) oZ) nR) nS) nU) nW) nX) nY) nZ) n0) n1) n2) n3) oa) oc) od) Pj) Pk) JB) JD) oe) og) oh) oi)
theorem nq:false=Rows.tripleEnoughDealersRemainRow.goesBy Tryz.prog:=by kernel_rfl
theorem o7:Rows.tripleEnoughDealersRemainRow.wfByText (OpenSpec.ofChange Rows.tripleEnoughDealersRemainSpec)=true:=by kernel_rfl
theorem oj:Rows.TripleEnoughDealersRemainSaid :=
  OpenClaim.holds_of_wide 5 Tryz.f5 rfl rfl rfl rfl rfl rfl rfl ⟨rfl,rfl,rfl,rfl,rfl⟩ rfl rfl rfl rfl rfl (by kernel_rfl) Tryz.func5 mI
    (of_decide_eq_true (by kernel_rfl)) (by unfold Func.isWrapper;first | (rw [if_pos (by decide +kernel)];kernel_rfl) | (rw [if_neg (by decide +kernel)];exact ⟨rfl,rfl⟩))
    (fun os started H enc _=>mJ os started H enc)
theorem tripleEnoughDealersRemain_holds:Rows.TripleEnoughDealersRemainCardSaid :=
  Claim7.holds_tied_plain_at .later [] [.data] true (true, "e2ad1b46d66589fd1320099ce90bc2556f02fc8d380b0d61ab7b9004b1e81e27") false
    oj (fun _ h=>by cases h) o7 (fun _ h=>by cases h) tripleEnoughDealersRemain_row_tie rfl ⟨rfl,rfl⟩ JC rfl
    (fun f fn hf hfn=>by
      obtain rfl : f = 5 := Option.some.inj ((show Tryz.prog.funcNamed "privity/privitylaw22.TripleEnoughDealersRemain" = some 5 by kernel_rfl).symm.trans hf) |>.symm
      obtain rfl:fn=Tryz.f5:=(Option.some.inj (Tryz.func5.symm.trans hfn)).symm
      exact ⟨Gr,fun j t ht=>by
        rw [Tryz.params5] at ht
        have hm:t ∈ [29,5]:=by simpa using Array.mem_of_getElem? ht
        have hall:([29,5].all fun u=>!Tryz.prog.wantsStandIn u)=true:=by kernel_rfl
        exact (show Tryz.prog.wantsStandIn t=false by simpa using List.all_eq_true.1 hall t hm)⟩)
    nq
#print axioms tripleEnoughDealersRemain_holds
end Go.Proofs.YtpjenmchinpgaaaGreatDoor
