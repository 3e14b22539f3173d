/- For any numbers of T dealers, the numbers of a batch are a bijective function of what the other dealers hide; for at most thirteen parties. -/
import Derived.Test.YtkmbblnepjofaaaGreatDoorRn
import Derived.Test.YtkmbblnepjofaaaGreatDoorNXc3
import Derived.Test.YtkmbblnepjofaaaGreatDoorTp3
import Derived.Test.YtkmbblnepjofaaaGreatDoorCards
import Derived.Test.YtkmbblnepjofaaaGreatDoorTie
import Derived.Test.YtkmbblnepjofaaaGreatDoorTp2
import Derived.Test.YtkmbblnepjofaaaGreatDoorTf
import Derived.Test.YtkmbblnepjofaaaGreatDoorTg
import Derived.Test.YtkmbblnepjofaaaGreatDoorTh
import Derived.SevenTiedAt
import Derived.ProofKit
import Derived.LaidMore
import Derived.OpenShut
import Derived.Stop.Joined
set_option linter.unusedVariables false
namespace Go.Proofs.YtkmbblnepjofaaaGreatDoor
open Go Gv Gw Pu Go.ChangeShapes Go.WideShapes Go.ChangeAt Go.RowKit Go.Deep
theorem own:ownKnob Tryz.prog.godebug=none:=by kernel_rfl
theorem laidOut:laidOutB Tryz.prog=true:=by kernel_rfl
abbrev lay : List (String × DataW Unit) := [("privity/field.exps", Rows.laid_privity_field_exps)]
abbrev Gm:List Value:=[.int .i64 ((5:Nat):Int),.int .i64 ((7:Nat):Int),.int .i64 ((13:Nat):Int),.int .i64 ((17:Nat):Int),.int .i64 ((19:Nat):Int),.int .i64 ((31:Nat):Int),.int .i64 ((61:Nat):Int)]
theorem CI : Tryz.prog.globalNamed "privity/field.exps" = some 0 := by kernel_rfl
theorem Fl:(Tryz.prog.globals[0]?).map (·.type)=some 278:=by kernel_rfl
theorem yx (os:Os) (args:Array Value):laidMetH Tryz.prog lay ((World.doorLaid Tryz.prog 400 os).forCall (fun _ _=>0) ⟨#[],args,[]⟩).memory :=
  laidMetH_of_parts3 (fuel:=8) (laidMet_of_run' 8 (by kernel_rfl) (by kernel_rfl)) (by kernel_rfl) (by kernel_rfl)
theorem ue {W:World} (h:laidMetH Tryz.prog lay W):(FV 0 Gm).q (qK W):=by
  rw [MakeChecks.laidMetH_plain _ _ _ (by kernel_rfl)] at h
  obtain ⟨ps,⟨g0,t0,cs0,f0,p0,q0,hg0,ht0,hv0,hd0,_,_⟩,_,_⟩:=h
  obtain rfl:=Option.some.inj (CI.symm.trans hg0)
  obtain rfl:=Option.some.inj (Fl.symm.trans ht0)
  have e:=yo (zs:=[5,7,13,17,19,31,61]) Tryz.underlying278 Tryz.underlying3 (by kernel_rfl) (by kernel_rfl) hd0
  simp only [World.var?,CI,Option.bind_some] at hv0
  split at hv0
  · next c e1 f1 hh =>
    have hc:=Option.some.inj hv0
    subst hc
    have hlt:0 < W.heap.size:=by
      rcases Nat.eq_zero_or_pos W.heap.size with z | z
      · rw [Array.getElem?_eq_none (by omega)] at hh;cases hh
      · exact z
    refine ⟨hlt,e1,f1,?_⟩
    show W.heap[0]?=_
    rw [hh]
    obtain ⟨l⟩:=c
    have e2:l=Gm:=e
    rw [e2]
  · cases hv0
def zo:Nat→Prop:=fun x:Nat=>x < 18446744073709551616
theorem Gb:mS Tryz.prog 22 Kd.u64 zo:=xW Tryz.underlying22
def xU:Int→Prop:=fun x:Int => -9223372036854775808≤x∧x < 9223372036854775808
theorem Ge:mS Tryz.prog 3 Kd.i64 xU:=xV Tryz.underlying3
instance:Inhabited aL:=⟨⟨default,default,default⟩⟩
def EW:aL→Prop:=fun x:aL=>zo x.P∧xU x.N∧xU x.T
theorem Gc:mS Tryz.prog 24 p6 EW:=us (ok:=fun y:(Nat) × (Int) × (Int)=>zo y.1∧xU y.2.1∧xU y.2.2) (f:=fun x:aL=>(x.P,x.N,x.T)) (fun a:(Nat) × (Int) × (Int)=>⟨a.1,a.2.1,a.2.2⟩) (fun _=>rfl) Tryz.underlying24 (by kernel_rfl) (rx (by kernel_rfl) Gb (rx (by kernel_rfl) Ge (wn (by kernel_rfl) Ge) rfl) rfl)
def EX:List Int→Prop:=fun xs:List Int=>xs.length≤140737488355328∧∀ x ∈ xs,xU x
theorem Gd:mS Tryz.prog 25 (Kd.sl Kd.i64) EX:=zr Tryz.underlying25 (by kernel_rfl) (by decide) (of_decide_eq_true (by kernel_rfl)) Ge
set_option maxRecDepth 100000 in
theorem gW (os:Os) (started:os.Started) (H:Type) (enc:TypeId × Value→H) :
    ReturnsInHanded {} Tryz.checked os 9 .any (fun w args=>(Rows.randomnessExtractorInvertibleSpec.pre enc Tryz.prog Tryz.f9 [] false w args∧laidMetH Tryz.prog lay w)∧sizedMet enc Tryz.prog Tryz.f9 (OpenSpec.ofChange Rows.randomnessExtractorInvertibleSpec) false w args)
      (Rows.randomnessExtractorInvertibleSpec.post enc Tryz.prog Tryz.f9 false true false false):=by
  refine returnsInHanded_of_change_and (C:=Tryz.checked) (X:=fun w _=>laidMetH Tryz.prog lay w) (fun _ _ _ hh h=>h.of_heap hh) own started (by kernel_rfl) Tryz.func9
    (ChangeSpec.witness_shaped (enc:=enc) (C:=Tryz.checked) (os:=os) (X:=fun w _=>laidMetH Tryz.prog lay w) false (World.doorLaid Tryz.prog 400 os) #[.agg #[.int .u64 0,.int .i64 0,.int .i64 0],.slice none 0 0] 8 rfl (World.shaped_of_RefB (by kernel_rfl) (by kernel_rfl)) (by kernel_rfl) (by kernel_rfl) (by kernel_rfl) (yx os _)) ?_
  intro W base args ds gs before hval0 hW _ hsz hL _
  have hval:∀ (j:Nat) t v,Tryz.f9.params[j]?=some t→args[j]?=some v→Value.okWide Tryz.prog W .any base t v:=hval0
  have hsz1:(DataW.weightsEach Tryz.prog (Tryz.f9.params.toList++[]) (ds++gs)).all (·≤reachBytes)=true:=hsz
  have hW':=hW
  obtain ⟨p,q,hA0,hV,rfl,hfz,hnd⟩:=hW
  have hA:DataW.TrodAll enc Tryz.prog W 0 (fun _=>true) true Tryz.f9.params.toList args.toList ds p:=hA0
  rw [Tryz.params9] at hA hval hsz1
  obtain ⟨v0,vs0,d0,ds0,p0,q0,hargs,rfl,rfl,h0,r0⟩:=trodAll_cons hA
  obtain ⟨v1,vs1,d1,ds1,p1,q1,rfl,rfl,rfl,h1,r1⟩:=trodAll_cons r0
  obtain ⟨rfl,rfl,rfl⟩:=trodAll_nil r1
  obtain rfl:args=#[v0,v1]:=by cases args;simp_all
  obtain ⟨rfl,rfl⟩:=trodVars_none hV
  have k0:=h0
  have lt0:∀ x ∈ p0,x.block < W.heap.size:=by obtain ⟨m,hm⟩:=k0;exact DataW.trod_lt m _ _ _ hm
  have k1:=h1
  have lt1:∀ x ∈ p1,x.block < W.heap.size:=by obtain ⟨m,hm⟩:=k1;exact DataW.trod_lt m _ _ _ hm
  obtain ⟨x0,g0,rfl,e6,ok0⟩:=vR Tryz.underlying24 Gc (hval 0 24 v0 rfl rfl) h0 (qB hsz1 0 24 d0 rfl rfl)
  obtain ⟨x1,it1,ok1⟩:=xA Tryz.underlying25 Gd (hval 1 25 v1 rfl rfl) h1 (qB hsz1 1 25 d1 rfl rfl)
  have hlaw:=Pu.sC x0 x1
  have hpre:∀ a ∈ ((p6.items x0 g0)++[nt Kd.i64 v1 x1]++[FV 0 Gm]),a.bs=[]∧a.q (qK W):=by
    intro a ha
    rcases List.mem_append.1 ha with ha | ha
    · rcases List.mem_append.1 ha with ha | ha
      · exact e6 a ha
      · rw [List.mem_singleton] at ha;subst ha;exact it1
    · rw [List.mem_singleton] at ha;subst ha;exact ⟨rfl,ue hL⟩
  refine (B1 (fw hlaw) (fun v L h=>h.1) hpre).mono fun e W' ⟨he,bel⟩=>?_
  subst he
  exact ⟨_,rfl,_,_,_,[],_,[],hW',trodAll_mk1 (shut_bool Tryz.underlying4 _),(trodAll_cons_mk (Below.trod laidOut (by kernel_rfl) (of_decide_eq_true (by kernel_rfl)) k0 bel lt0) (trodAll_cons_mk (Below.trod laidOut (by kernel_rfl) (of_decide_eq_true (by kernel_rfl)) k1 bel lt1) trodAll_mk0)),rfl,bel.frame _,fun h=>by cases h⟩
theorem jq:(fun (P:Program) (f:FuncId) (fn:Func) (s:ChangeSpec) (c:OpenClaim)=>(c.wf (OpenSpec.ofChange s):Bool)) Tryz.prog 9 Tryz.f9 Rows.randomnessExtractorInvertibleSpec Rows.randomnessExtractorInvertibleRow=true:=by kernel_rfl
theorem jr:(fun (P:Program) (f:FuncId) (fn:Func) (s:ChangeSpec) (c:OpenClaim)=>(fn.params.all (P.readableRec ·):Bool)) Tryz.prog 9 Tryz.f9 Rows.randomnessExtractorInvertibleSpec Rows.randomnessExtractorInvertibleRow=true:=by kernel_rfl
theorem jt:(fun (P:Program) (f:FuncId) (fn:Func) (s:ChangeSpec) (c:OpenClaim)=>(namedTie P c.named s.vars:Bool)) Tryz.prog 9 Tryz.f9 Rows.randomnessExtractorInvertibleSpec Rows.randomnessExtractorInvertibleRow=true:=by kernel_rfl
theorem ju:(fun (P:Program) (f:FuncId) (fn:Func) (s:ChangeSpec) (c:OpenClaim)=>((c.stops == []):Bool)) Tryz.prog 9 Tryz.f9 Rows.randomnessExtractorInvertibleSpec Rows.randomnessExtractorInvertibleRow=true:=by kernel_rfl
theorem jv:(fun (P:Program) (f:FuncId) (fn:Func) (s:ChangeSpec) (c:OpenClaim)=>((c.knobs == []):Bool)) Tryz.prog 9 Tryz.f9 Rows.randomnessExtractorInvertibleSpec Rows.randomnessExtractorInvertibleRow=true:=by kernel_rfl
theorem jw:(fun (P:Program) (f:FuncId) (fn:Func) (s:ChangeSpec) (c:OpenClaim)=>((c.inPlace == P.inPlace f):Bool)) Tryz.prog 9 Tryz.f9 Rows.randomnessExtractorInvertibleSpec Rows.randomnessExtractorInvertibleRow=true:=by kernel_rfl
theorem iQ:(fun (P:Program) (f:FuncId) (fn:Func) (s:ChangeSpec) (c:OpenClaim)=>((c.unfollowed == P.unfollowed f):Bool)) Tryz.prog 9 Tryz.f9 Rows.randomnessExtractorInvertibleSpec Rows.randomnessExtractorInvertibleRow=true:=by kernel_rfl
theorem iR:(fun (P:Program) (f:FuncId) (fn:Func) (s:ChangeSpec) (c:OpenClaim)=>((c.recurses == P.recurses f):Bool)) Tryz.prog 9 Tryz.f9 Rows.randomnessExtractorInvertibleSpec Rows.randomnessExtractorInvertibleRow=true:=by kernel_rfl
theorem iS:(fun (P:Program) (f:FuncId) (fn:Func) (s:ChangeSpec) (c:OpenClaim)=>((c.named == P.varsNamed f):Bool)) Tryz.prog 9 Tryz.f9 Rows.randomnessExtractorInvertibleSpec Rows.randomnessExtractorInvertibleRow=true:=by kernel_rfl
theorem iT:(fun (P:Program) (f:FuncId) (fn:Func) (s:ChangeSpec) (c:OpenClaim)=>((c.maps == (fn.params.toList++s.plain.varTypes P).any (P.mapsRec ·)):Bool)) Tryz.prog 9 Tryz.f9 Rows.randomnessExtractorInvertibleSpec Rows.randomnessExtractorInvertibleRow=true:=by kernel_rfl
theorem iU:(fun (P:Program) (f:FuncId) (fn:Func) (s:ChangeSpec) (c:OpenClaim)=>((c.ifaces == (fn.params.toList++s.plain.varTypes P).any (P.ifacesRec ·)):Bool)) Tryz.prog 9 Tryz.f9 Rows.randomnessExtractorInvertibleSpec Rows.randomnessExtractorInvertibleRow=true:=by kernel_rfl
theorem iW:(fun (P:Program) (f:FuncId) (fn:Func) (s:ChangeSpec) (c:OpenClaim)=>((c.mapsOut == P.mapsAmong fn.resultTypes.toList):Bool)) Tryz.prog 9 Tryz.f9 Rows.randomnessExtractorInvertibleSpec Rows.randomnessExtractorInvertibleRow=true:=by kernel_rfl
theorem iX:(fun (P:Program) (f:FuncId) (fn:Func) (s:ChangeSpec) (c:OpenClaim)=>((c.loops == (fn.params.toList++s.plain.varTypes P).any (P.loopsFrom ·)):Bool)) Tryz.prog 9 Tryz.f9 Rows.randomnessExtractorInvertibleSpec Rows.randomnessExtractorInvertibleRow=true:=by kernel_rfl
theorem iY:(fun (P:Program) (f:FuncId) (fn:Func) (s:ChangeSpec) (c:OpenClaim)=>((c.wideKeys == (fn.params.toList++s.plain.varTypes P++fn.resultTypes.toList).any (P.wideKeysFrom ·)):Bool)) Tryz.prog 9 Tryz.f9 Rows.randomnessExtractorInvertibleSpec Rows.randomnessExtractorInvertibleRow=true:=by kernel_rfl
theorem iZ:(fun (P:Program) (f:FuncId) (fn:Func) (s:ChangeSpec) (c:OpenClaim)=>(s.vars.all (P.varReadable ·):Bool)) Tryz.prog 9 Tryz.f9 Rows.randomnessExtractorInvertibleSpec Rows.randomnessExtractorInvertibleRow=true:=by kernel_rfl
theorem i0:(fun (P:Program) (f:FuncId) (fn:Func) (s:ChangeSpec) (c:OpenClaim)=>(fn.resultTypes.all (fun t=>P.readableRec t && decide (t < P.types.size)):Bool)) Tryz.prog 9 Tryz.f9 Rows.randomnessExtractorInvertibleSpec Rows.randomnessExtractorInvertibleRow=true:=by kernel_rfl
theorem i3:(fun (P:Program) (f:FuncId) (fn:Func) (s:ChangeSpec) (c:OpenClaim)=>((c.ifacesOut == fn.resultTypes.toList.any (P.ifacesRec ·)):Bool)) Tryz.prog 9 Tryz.f9 Rows.randomnessExtractorInvertibleSpec Rows.randomnessExtractorInvertibleRow=true:=by kernel_rfl
theorem i4:(fun (P:Program) (f:FuncId) (fn:Func) (s:ChangeSpec) (c:OpenClaim)=>((c.loopsOut == fn.resultTypes.toList.any (P.loopsFrom ·)):Bool)) Tryz.prog 9 Tryz.f9 Rows.randomnessExtractorInvertibleSpec Rows.randomnessExtractorInvertibleRow=true:=by kernel_rfl
theorem i5:(fun (P:Program) (f:FuncId) (fn:Func) (s:ChangeSpec) (c:OpenClaim)=>((c.plainKeys == P.plainKeys):Bool)) Tryz.prog 9 Tryz.f9 Rows.randomnessExtractorInvertibleSpec Rows.randomnessExtractorInvertibleRow=true:=by kernel_rfl
theorem i6:(fun (P:Program) (f:FuncId) (fn:Func) (s:ChangeSpec) (c:OpenClaim)=>(c.shortTexts.isNone:Bool)) Tryz.prog 9 Tryz.f9 Rows.randomnessExtractorInvertibleSpec Rows.randomnessExtractorInvertibleRow=true:=by kernel_rfl
theorem i7:(fun (P:Program) (f:FuncId) (fn:Func) (s:ChangeSpec) (c:OpenClaim)=>((c.kinds == (if c.domain.isEmpty then [] else fn.params.toList.map fun t=>match P.underlying t with | some (.int k)=>some k | _=>none)):Bool)) Tryz.prog 9 Tryz.f9 Rows.randomnessExtractorInvertibleSpec Rows.randomnessExtractorInvertibleRow=true:=by kernel_rfl
theorem i9:(fun (P:Program) (f:FuncId) (fn:Func) (s:ChangeSpec) (c:OpenClaim)=>((c.pinned == c.pinnedBy):Bool)) Tryz.prog 9 Tryz.f9 Rows.randomnessExtractorInvertibleSpec Rows.randomnessExtractorInvertibleRow=true:=by kernel_rfl
theorem ja:(fun (P:Program) (f:FuncId) (fn:Func) (s:ChangeSpec) (c:OpenClaim)=>((c.veiled == (fn.params.toList++s.plain.varTypes P++fn.resultTypes.toList).any (P.veiledRec ·)):Bool)) Tryz.prog 9 Tryz.f9 Rows.randomnessExtractorInvertibleSpec Rows.randomnessExtractorInvertibleRow=true:=by kernel_rfl
theorem jb:(fun (P:Program) (f:FuncId) (fn:Func) (s:ChangeSpec) (c:OpenClaim)=>(c.veiledFits P fn.params.toList (fn.params.toList++s.plain.varTypes P++fn.resultTypes.toList):Bool)) Tryz.prog 9 Tryz.f9 Rows.randomnessExtractorInvertibleSpec Rows.randomnessExtractorInvertibleRow=true:=by kernel_rfl
set_option maxRecDepth 100000 in
theorem gV:joinedFacts Tryz.prog 9 Tryz.f9 Rows.randomnessExtractorInvertibleSpec Rows.randomnessExtractorInvertibleRow=true:=(ba (ba (ba (ba (ba (ba (ba (ba (ba (ba (ba (ba (ba (ba (ba (ba (ba (ba (ba (ba (ba (ba (ba (ba (ba (ba (ba (ba (ba (ba (ba jq Hd) He) jr) jt) ju) Hg) jv) Hh) jw) iQ) iR) iS) iT) iU) iW) iX) iY) iZ) i0) i3) i4) i5) i6) GB) GC) B9) Cb) i7) i9) ja) jb)
theorem iC:false=Rows.randomnessExtractorInvertibleRow.goesBy Tryz.prog:=by kernel_rfl
theorem jy:Rows.randomnessExtractorInvertibleRow.wfByText (OpenSpec.ofChange Rows.randomnessExtractorInvertibleSpec)=true:=by kernel_rfl
theorem jc:Rows.RandomnessExtractorInvertibleSaid :=
  OpenClaim.holds_of_wide 9 Tryz.f9 rfl rfl rfl rfl rfl rfl rfl ⟨rfl,rfl,rfl,rfl,rfl⟩ rfl rfl rfl rfl rfl (by kernel_rfl) Tryz.func9 gV
    (of_decide_eq_true (by kernel_rfl)) (by unfold Func.isWrapper;first | (rw [if_pos (by decide +kernel)];kernel_rfl) | (rw [if_neg (by decide +kernel)];exact ⟨rfl,rfl⟩))
    (fun os started H enc _=>gW os started H enc)
theorem randomnessExtractorInvertible_holds:Rows.RandomnessExtractorInvertibleCardSaid :=
  Claim7.holds_tied_plain_at .later [] [.data] true (true, "00ae26d82973f8a5081b5b0fd7e1a56d18a2d4d51fce708aed4c10fa7199e597") false
    jc (fun _ h=>by cases h) jy (fun _ h=>by cases h) randomnessExtractorInvertible_row_tie rfl ⟨rfl,rfl⟩ Ca rfl
    (fun f fn hf hfn=>by
      obtain rfl : f = 9 := Option.some.inj ((show Tryz.prog.funcNamed "privity/privitylaw24.RandomnessExtractorInvertible" = some 9 by kernel_rfl).symm.trans hf) |>.symm
      obtain rfl:fn=Tryz.f9:=(Option.some.inj (Tryz.func9.symm.trans hfn)).symm
      exact ⟨zv,fun j t ht=>by
        rw [Tryz.params9] at ht
        have hm:t ∈ [24,25]:=by simpa using Array.mem_of_getElem? ht
        have hall:([24,25].all fun u=>!Tryz.prog.wantsStandIn u)=true:=by kernel_rfl
        exact (show Tryz.prog.wantsStandIn t=false by simpa using List.all_eq_true.1 hall t hm)⟩)
    iC
#print axioms randomnessExtractorInvertible_holds
end Go.Proofs.YtkmbblnepjofaaaGreatDoor
