/- Own words: numbers, calls, ends, joins and loops, told by the printed plain functions. -/
import Derived.Test.YtkmbblnepjofaaaGreatDoorGw4
set_option linter.unusedVariables false
namespace Gw
open Go Gv

def Fi {α:Type} (xs:List α) (i:Int) (x:α):Option (List α):=if 0≤i∧i.toNat < xs.length then some (xs.set i.toNat x) else none
theorem ib {α:Type} {xs:List α} {i:Int} {x:α} (h:eV xs i=some x):i.toNat < xs.length:=by
  unfold eV at h;split at h
  · exact (List.getElem?_eq_some_iff.1 h).1
  · cases h
theorem iz {α:Type} {xs:List α} {i:Int} {x:α} (h:eV xs i=some x):i=(i.toNat:Int):=by
  unfold eV at h;split at h
  · omega
  · cases h
theorem ig {α:Type} {xs:List α} {i:Int} {x:α} (h:eV xs i=some x):xs[i.toNat]?=some x:=by
  unfold eV at h;split at h
  · exact h
  · cases h
theorem sz {α:Type} {xs ys:List α} {i:Int} {x:α} (h:Fi xs i x=some ys):i=(i.toNat:Int):=by
  unfold Fi at h;split at h
  · omega
  · cases h
/-- the printed functions' steps -/
theorem so {α β:Type} {x:Option α} {f:α→Option β} {r:β} (h:(x >>= f)=some r):∃ a,x=some a∧f a=some r:=by
  cases x with
  | none=>cases h
  | some a=>exact ⟨a,rfl,h⟩
theorem EF {α:Type} {c:Bool} {x y:Option α} {r:α} (h:(bif c then x else y)=some r):(c=true∧x=some r) ∨ (c=false∧y=some r):=by
  cases c with
  | true=>exact .inl ⟨rfl,h⟩
  | false=>exact .inr ⟨rfl,h⟩

/- ---- numbers -/
def lf (op:BinOp) (k:IntKind) (m n:Int):Option Int :=
  match op with
  | .add=>some (k.wrap (m+n))
  | .sub=>some (k.wrap (m - n))
  | .mul=>some (k.wrap (m*n))
  | .quo=>if n=0 then none else some (k.wrap (m.tdiv n))
  | .rem=>if n=0 then none else some (m.tmod n)
  | .and=>some (k.wrap ((BitVec.ofInt k.bits m) &&& (BitVec.ofInt k.bits n)).toNat)
  | .or=>some (k.wrap ((BitVec.ofInt k.bits m) ||| (BitVec.ofInt k.bits n)).toNat)
  | .xor=>some (k.wrap ((BitVec.ofInt k.bits m) ^^^ (BitVec.ofInt k.bits n)).toNat)
  | _=>none
theorem wrap_u64 (a:Nat):IntKind.u64.wrap (a:Int)=((a % 18446744073709551616:Nat):Int):=by
  simp [IntKind.wrap,IntKind.bits,IntKind.signed]
theorem tN (z:Int):IntKind.u64.wrap z=((tf z:Nat):Int):=by
  simp [IntKind.wrap,IntKind.bits,IntKind.signed,tf];omega
theorem p8 (a:Nat):(BitVec.ofInt 64 (a:Int)).toNat=a % 18446744073709551616:=by
  simp
theorem Fw {a b:Nat}:lf .add .u64 (a:Int) (b:Int)=some ((nv a b:Nat):Int):=by
  simp only [lf,nv];rw [← Int.natCast_add,wrap_u64]
theorem FA {a b:Nat}:lf .mul .u64 (a:Int) (b:Int)=some ((rM a b:Nat):Int):=by
  simp only [lf,rM];rw [← Int.natCast_mul,wrap_u64]
theorem FB {a b:Nat}:lf .sub .u64 (a:Int) (b:Int)=some ((te a b:Nat):Int):=by
  simp only [lf,te];rw [tN];rfl
theorem Fy {a b:Nat}:lf .and .u64 (a:Int) (b:Int)=some ((rz a b:Nat):Int):=by
  show some (IntKind.u64.wrap (((BitVec.ofInt 64 (a:Int) &&& BitVec.ofInt 64 (b:Int):BitVec 64).toNat:Nat):Int))=_
  rw [wrap_u64,BitVec.toNat_and,p8,p8,Nat.mod_eq_of_lt (Nat.lt_of_le_of_lt Nat.and_le_left (Nat.mod_lt _ (by decide)))];rfl
theorem GO {a b:Nat}:lf .or .u64 (a:Int) (b:Int)=some ((EY a b:Nat):Int):=by
  show some (IntKind.u64.wrap (((BitVec.ofInt 64 (a:Int) ||| BitVec.ofInt 64 (b:Int):BitVec 64).toNat:Nat):Int))=_
  rw [wrap_u64,BitVec.toNat_or,p8,p8,Nat.mod_eq_of_lt (Nat.or_lt_two_pow (n:=64) (Nat.mod_lt _ (by decide)) (Nat.mod_lt _ (by decide)))];rfl
theorem ow {z c:Int} (h:Ar z=some c):c=z ∧ -9223372036854775808≤z∧z < 9223372036854775808:=by
  unfold Ar at h;split at h
  · cases h;exact ⟨rfl,by assumption⟩
  · cases h
theorem sg {z c:Int} (h:Ar z=some c):IntKind.i64.wrap z=c:=by
  obtain ⟨rfl,h1,h2⟩:=ow h
  rw [IntKind.wrap_i64];omega
theorem bQ {a b c:Int} (h:dY a b=some c):lf .add .i64 a b=some c:=by simp only [lf];rw [sg h]
theorem cK {a b c:Int} (h:f5 a b=some c):lf .sub .i64 a b=some c:=by simp only [lf];rw [sg h]
theorem iO {a b c:Int} (h:lV a b=some c):lf .mul .i64 a b=some c:=by simp only [lf];rw [sg h]
theorem sY {a b c:Int} (h:vZ a b=some c):lf .quo .i64 a b=some c:=by
  unfold vZ at h;split at h
  · cases h
  · simp only [lf];rw [if_neg (by assumption),sg h]
section
variable {P:Program} {n:Nat} {Q:b7} {E:Env} {H F:List aC} {ops:pp} {i:Nat}
def FT (E:Env) (o:Oper):Option (BinOp × IntKind × IntKind × Int × Int) :=
  match o.op with
  | .binOp op _ x y _=>match E.ev x,E.ev y with
    | .int k a,.int k' b=>some (op,k,k',a,b)
    | _,_=>none
  | _=>none
theorem vc {o:Oper} {op:BinOp} {k k':IntKind} {a b:Int} (h:FT E o=some (op,k,k',a,b)):∃ t yt x y,o.op=.binOp op t x y yt∧E.ev x=.int k a∧E.ev y=.int k' b:=by
  unfold FT at h
  split at h
  · rename_i op' t x y yt hop
    split at h
    · rename_i hx hy;cases h;exact ⟨t,yt,x,y,hop,hx,hy⟩
    · cases h
  · cases h
theorem ax {op:BinOp} {k:IntKind} {a b z:Int} (hz:lf op k a b=some z) (h:dec n ops E i FT=some (op,k,k,a,b)) (g:WI P n ops (i+1) Q (E.putO (dM ops i) (.int k z)) H):WI P n ops i Q E H :=
  o8 h (fun o ho s _ _=>by
    obtain ⟨t,yt,x,y,hop,hx,hy⟩:=vc ho
    unfold execOp
    rw [hop]
    simp only []
    rw [hx,hy]
    cases op <;> simp only [lf] at hz <;> try (cases hz;done)
    case quo =>
      split at hz
      · cases hz
      · rename_i h0;cases hz;simp [eqGuard,Go.binOp,Op.intDiv,h0]
    case rem =>
      split at hz
      · cases hz
      · rename_i h0;cases hz;simp [eqGuard,Go.binOp,Op.intDiv,h0]
    all_goals (cases hz;simp [eqGuard,Go.binOp,Op.intArith,Op.intBits])) g
theorem rV {op:BinOp} {k yk:IntKind} {a b z:Int} (hop:op=.shl ∨ op=.shr) (hz:(Op.shift op k a yk b)=pure (.int k z)) (h:dec n ops E i FT=some (op,k,yk,a,b)) (g:WI P n ops (i+1) Q (E.putO (dM ops i) (.int k z)) H):WI P n ops i Q E H :=
  o8 h (fun o ho s _ _=>by
    obtain ⟨t,yt,x,y,hop',hx,hy⟩:=vc ho
    unfold execOp
    rw [hop']
    simp only []
    rw [hx,hy]
    rcases hop with e | e <;> (subst e;simp [eqGuard,Go.binOp,hz])) g
theorem uI {a c:Nat} {b:Int} {yk:IntKind} (h:pY a b=some c):Op.shift .shr .u64 (a:Int) yk b=pure (.int .u64 (c:Int)):=by
  unfold pY at h;split at h
  · cases h
  · rename_i h0
    cases h
    simp only [Op.shift]
    rw [if_neg (by omega)]
    have:((a:Int)).fdiv (2 ^ (min b.toNat 64))=((a / 2 ^ (min b.toNat 64):Nat):Int):=by
      rw [Int.fdiv_eq_ediv_of_nonneg _ (Int.le_of_lt (Int.pow_pos (by decide)))]
      norm_cast
    rw [show min b.toNat IntKind.u64.bits=min b.toNat 64 from rfl,this]
theorem El {a c:Nat} {b:Int} {yk:IntKind} (h:wt a b=some c):Op.shift .shl .u64 (a:Int) yk b=pure (.int .u64 (c:Int)):=by
  unfold wt at h;split at h
  · cases h
  · rename_i h0
    cases h
    simp only [Op.shift]
    rw [if_neg (by omega),show min b.toNat IntKind.u64.bits=min b.toNat 64 from rfl]
    have:(a:Int)*2 ^ (min b.toNat 64)=((a*2 ^ (min b.toNat 64):Nat):Int):=by norm_cast
    rw [this,wrap_u64]
def G0 (T:qD) (E:Env) (o:Oper):Option (IntKind × Int) :=
  match o.op with
  | .convert st t x=>match E.ev x,yh T.ints t,yh T.ints st with
    | .int _ a,some k,some _=>some (k,a)
    | _,_,_=>none
  | _=>none
theorem ti {T:qD} (ht:T.ok P=true) {k:IntKind} {a z:Int} (hz:k.wrap a=z) (h:dec n ops E i (G0 T)=some (k,a)) (g:WI P n ops (i+1) Q (E.putO (dM ops i) (.int k z)) H):WI P n ops i Q E H :=
  o8 h (fun o ho s _ _=>by
    subst hz
    unfold G0 at ho
    split at ho
    · rename_i hop
      split at ho
      · rename_i hx hk hs
        cases ho
        exact nL ht (by unfold re;rw [hop];simp only [hx,hk,hs]) s.w
      · cases ho
    · cases ho) g
theorem Hk {a:Int}:IntKind.u64.wrap a=((tf a:Nat):Int):=tN a
/- ---- calls -/
/-- A contract, its arguments a list. -/
def Ct (P:Program) (f:FuncId) (l:List Value) (Pre:List aC) (b7:Value→List aC→Prop):Prop:=F1 P f l.toArray Pre b7
/-- items are taken out (or copied, if nobody owns anything there) -/
def uu:List (Nat × Bool)→List aC→Option (List aC × List aC)
  | [],H=>some ([],H)
  | (j,cp) :: r,H=>match pick H j with
    | some x=>(match cp with
      | true=>(match xP x with
        | true=>(match uu r H with | some (L,R)=>some (x :: L,R) | none=>none)
        | false=>none)
      | false=>(match uu r (bo H j) with | some (L,R)=>some (x :: L,R) | none=>none))
    | none=>none
theorem xg {x:aC} (h:xP x=true):x.bs=[]:=by unfold xP at h;split at h;assumption;cases h
theorem nH {s:St}:∀ (js:List (Nat × Bool)) {A H L R:List aC},Holds s (A++H)→uu js H=some (L,R)→Holds s (A++(L++R))
  | [],A,H,L,R,h,e=>by cases e;exact h
  | (j,cp) :: r,A,H,L,R,h,e=>by
    simp only [uu] at e
    split at e
    · rename_i x hx
      split at e
      · split at e
        · rename_i hpr
          split at e
          · rename_i L' R' hr
            cases e
            have h1:=nH r h hr
            have h2:=h1.consPr (xg hpr) (h.q x (List.mem_append_right _ (bp hx)))
            exact h2.perm (List.perm_middle (l₁:=A) (l₂:=L'++R) (a:=x)).symm
          · cases e
        · cases e
      · split at e
        · rename_i L' R' hr
          cases e
          have h1:Holds s ((A++[x])++bo H j):=by
            rw [List.append_assoc]
            exact h.perm (List.Perm.append_left A (gN H j x hx))
          have h2:=nH r h1 hr
          rw [List.append_assoc] at h2;exact h2
        · cases e
    · cases e
theorem nI {s:St} (js:List (Nat × Bool)) {H L R:List aC} (h:Holds s H) (e:uu js H=some (L,R)):Holds s (L++R):=nH (A:=[]) js h e
def preO (js:List (Nat × Bool)) (H:List aC):Option (List aC):=match uu js H with | some (L,_)=>some L | none=>none
def fH (js:List (Nat × Bool)) (H:List aC):List aC:=match uu js H with | some (_,R)=>R | none=>[]
theorem nJ {js:List (Nat × Bool)} {H L:List aC} (h:preO js H=some L):uu js H=some (L,fH js H):=by
  unfold preO at h
  unfold fH
  split at h
  · rename_i L' R hr;cases h;rw [hr]
  · cases h
theorem zt {js:List (Nat × Bool)} {H L:List aC} (h:preO js H=some L):gI H (L++fH js H):=fun s ok hs=>⟨s,rfl,ok,nI js hs (nJ h)⟩
def n0 (E:Env) (o:Oper):Option (FuncId × List Value) :=
  match o.op with
  | .call c=>match c.callee with
    | .value x=>match E.ev x with
      | .func (.func f) first captured=>some (f,first.toList++c.args.toList.map E.ev++captured.toList)
      | _=>none
    | _=>none
  | _=>none
def aZ (P : Program) (f : FuncId) : Bool := match P.funcs[f]? with | some fn => fn.body.isSome && !(fn.name == "runtime.NumGoroutine") | none => false
theorem xH {o:Oper} {f:FuncId} {l:List Value} (h:n0 E o=some (f,l)) (hf:aZ P f=true) (w:World):(execOp E.ev o).run P w=.ok (.enter f l.toArray) w:=by
  unfold n0 at h
  split at h
  · rename_i c hop
    split at h
    · rename_i x hc
      split at h
      · rename_i f' first captured hx
        simp only [Option.some.injEq,Prod.mk.injEq] at h
        obtain ⟨rfl,rfl⟩:=h
        unfold aZ at hf
        split at hf
        · rename_i fn hfn
          simp only [Bool.and_eq_true,Bool.not_eq_true'] at hf
          have:=zJ (P:=P) (E:=E) (o:=o) hop hc hx hfn (by
            have h1:=hf.1
            cases hb:fn.body with
            | none=>rw [hb] at h1;cases h1
            | some _=>rfl) hf.2 w
          rw [this]
          congr 2
          apply Array.ext'
          simp
        · cases hf
      · cases h
    · cases h
  · cases h
/-- A call by contract. -/
theorem wv {f:FuncId} {l:List Value} {Pre:List aC} {b7:Value→List aC→Prop} (js:List (Nat × Bool)) (hspec:Ct P f l Pre b7) (hp:preO js H=some Pre) (hf:aZ P f=true) (h:dec n ops E i n0=some (f,l))
    (g:∀ v L,b7 v L→WI P n ops (i+1) Q (E.putO (dM ops i) v) (L++fH js H)):WI P n ops i Q E H:=by
  obtain ⟨o,h1,h2,h3,h4,h5⟩:=oy h
  rw [h5] at g
  exact Co h1 h2 h3 (fun w=>xH h4 hf w) hspec (zt hp) g
/-- A call of a function without a body. -/
def CC (P:Program) (f:FuncId) (e:Array Value→Sem Value):Prop :=
  ∃ fn, P.funcs[f]? = some fn ∧ (fn.name == "runtime.NumGoroutine") = false ∧ fn.body.isNone = true ∧ Extern.findNext fn = none ∧ Extern.find fn = some e
theorem Fq {f:FuncId} {l:List Value} {v:Value} {e:Array Value→Sem Value} (hf:CC P f e) (hv:∀ w,(e l.toArray).run P w=.ok v w) (h:dec n ops E i n0=some (f,l)) (g:WI P n ops (i+1) Q (E.putO (dM ops i) v) H):WI P n ops i Q E H :=
  o8 h (fun o ho s _ _=>by
    unfold n0 at ho
    split at ho
    · rename_i c hop
      split at ho
      · rename_i x hc
        split at ho
        · rename_i f' first captured hx
          simp only [Option.some.injEq,Prod.mk.injEq] at ho
          obtain ⟨rfl,rfl⟩:=ho
          obtain ⟨fn,hfn,hn,hb,hx1,hx2⟩:=hf
          have hn' : ¬ fn.name = "runtime.NumGoroutine" := by simpa using hn
          have ha:(first++(c.args.map E.ev++captured))=(first.toList++c.args.toList.map E.ev++captured.toList).toArray:=by apply Array.ext';simp
          have hb':fn.body=none:=by simpa using hb
          unfold execOp
          rw [hop]
          have hv':=hv s.w
          rw [List.append_assoc] at hv' ha
          simp only [resolve,hc,hx,Deferred.ofValue,invoke,callFunc,Sem.run_bind,Sem.run_pure,Result.andThen_ok,Go.run_program,hfn]
          simp [hn',hb',hx1,hx2,mark,ha,Sem.run,hv']
        · cases ho
      · cases ho
    · cases ho) g
theorem C0 {x y a b:Nat} (h1:some (nv x y)=some a) (h2:some (Ap x y)=some b) (w:World):(add64Entry [.int .u64 (x:Int),.int .u64 (y:Int),.int .u64 ((0:Nat):Int)].toArray).run P w=.ok (.tuple #[.int .u64 (a:Int),.int .u64 (b:Int)]) w:=by
  cases h1;cases h2
  have:=run_add64 (P:=P) (x:Int) (y:Int) 0 (by omega) (by omega) (by omega) (by omega) w
  simpa [nv,Ap] using this
end

theorem qb {A B:List aC} (h:A.Sublist B):(dN A).Sublist (dN B):=by
  induction h with
  | slnil=>exact List.Sublist.refl _
  | cons a _ ih=>simp only [dN,List.flatMap_cons] at *;exact ih.trans (List.sublist_append_right _ _)
  | cons_cons a _ ih=>simp only [dN,List.flatMap_cons] at *;exact List.Sublist.append (List.Sublist.refl _) ih
/- ---- the function's start and end -/
theorem ah {P:Program} {f:FuncId} {fn:Func} {c:Code} {l:List Value} {Pre:List aC} {b7:Value→List aC→Prop}
    (hf:P.funcs[f]?=some fn) (hb:fn.body=some c) (hn:Nat.ble l.length fn.ntmps=true)
    (h:∀ F,WH P fn.ntmps c (xF P fn (Aj F b7)) ⟨rp 0 l,fun _=>undef⟩ (Pre++F)):Ct P f l Pre b7:=xC hf hb hn h
section
variable {P:Program} {n:Nat} {Q:b7} {E:Env} {H F:List aC}
/-- The end: what is handed over is taken out, the k items beside it are forgotten. -/
theorem a5 {fn:Func} {F:List aC} {b7:Value→List aC→Prop} {x:Exit} {l:List Value} {L:List aC} (js:List (Nat × Bool)) (k:Nat) (hp:b7 (one l) L) (hx:x=.ret ∨ x=.normal) (hr:tB E fn.results.toList=some l) (hj:preO js H=some L) (hF:(fH js H).drop k=F) :
    QH (xF P fn (Aj F b7)) x E H :=
  DV hx l hr L hp (fun s ok hs=>⟨s,rfl,ok,by
    have h1:=nI js hs (nJ hj)
    subst hF
    have h2:(L++(fH js H).drop k).Sublist (L++fH js H):=List.Sublist.append (List.Sublist.refl _) (List.drop_sublist ..)
    refine ⟨fun y hy=>h1.q y (h2.subset hy),fun b hb=>h1.own b ?_,h1.nd.sublist ?_⟩
    · obtain ⟨y,hy,hby⟩:=List.mem_flatMap.1 hb
      exact List.mem_flatMap.2 ⟨y,h2.subset hy,hby⟩
    · exact qb h2⟩)

/-- a result: a slot, or the j-th item's block -/
inductive yl where
  | slot
  | blk (j:Nat) (e:TypeId) (t:TypeId)
def vF (P:Program) (E:Env) (H:List aC):List ResultVar→List yl→List Value→Prop
  | [],[],l=>l=[]
  | .tmp t :: r,.slot :: g,v :: l=>E.get t=v∧vF P E H r g l
  | .cell p t :: r,.blk j e _ :: g,v :: l=>(∃ vs agg by_ z,pick H j=some (a7 (E.get p) e vs)∧cM P t=some (agg,vs.length,by_,z)∧(agg || Nat.beq vs.length 1)=true∧v=valOf agg vs)∧vF P E H r g l
  | _,_,_=>False
theorem uX {P:Program} {E:Env} {H:List aC} {t e ty:TypeId} {p v:Value} {vs:List Value} {agg:Bool} {by_:Nat} {z:Value} (j:Nat) (hp:pick H j=some (a7 p e vs)) (hE:E.get t=p) (ht:cM P ty=some (agg,vs.length,by_,z)) (h1:(agg || Nat.beq vs.length 1)=true) (hv:v=valOf agg vs) :
    ∃ vs agg by_ z,pick H j=some (a7 (E.get t) e vs)∧cM P ty=some (agg,vs.length,by_,z)∧(agg || Nat.beq vs.length 1)=true∧v=valOf agg vs:=⟨vs,agg,by_,z,by rw [hE];exact hp,ht,h1,hv⟩
theorem rf {P:Program} {n:Nat} {E:Env} {a:Act} (ag:Ag n E a) {H:List aC} {s:St} (hs:Holds s H):∀ (rs:List ResultVar) (gs:List yl) (l:List Value),vF P E H rs gs l →
    (rs.mapM (m:=Sem) fun | .tmp t=>pure (a.tmps.getD t undef) | .cell p t=>do loadVar t (← asAddr (a.tmps.getD p undef))).run P s.w=.ok l s.w
  | [],[],l,h=>by simp only [vF] at h;subst h;rfl
  | .tmp t :: r,.slot :: g,v :: l,h=>by
    obtain ⟨rfl,h⟩:=h
    have ih:=rf ag hs r g l h
    simp only [List.mapM_cons,Sem.run_bind,Sem.run_pure,Result.andThen_ok]
    rw [ih,ag.get]
    simp
  | .cell p t :: r,.blk j e _ :: g,v :: l,h=>by
    obtain ⟨⟨vs,agg,by_,z,hj,ht,h1,rfl⟩,h⟩:=h
    have ih:=rf ag hs r g l h
    obtain ⟨b,hb0,hb⟩:=hs.q _ (bp hj)
    have hld:=sO (P:=P) ht (w:=s.w) (a:=⟨b,0,none⟩) (cs:=vs) rfl (fun e=>by subst e;simpa using h1) (fun j u hu=>by rw [kL,Nat.zero_add];simpa [World.cell?,hb] using hu)
    have hld':(loadVar t ⟨b,0,none⟩).run P s.w=.ok (valOf agg vs) s.w:=by simpa [Instr.loadAt,Instr.sureAddr] using hld
    simp only [List.mapM_cons,Sem.run_bind,Sem.run_pure]
    rw [show a.tmps.getD p undef=.pointer (some ⟨b,0,none⟩) from (ag.get p).trans hb0,show asAddr (.pointer (some ⟨b,0,none⟩))=pure ⟨b,0,none⟩ from rfl]
    simp only [Sem.run_pure,Result.andThen_ok]
    rw [hld']
    simp only [Result.andThen_ok]
    rw [ih]
    simp
  | [],_ :: _,_,h=>h.elim
  | .tmp _ :: _,[],_,h=>h.elim
  | .cell .. :: _,[],_,h=>h.elim
  | .tmp _ :: _,.slot :: _,[],h=>h.elim
  | .cell .. :: _,.blk .. :: _,[],h=>h.elim
  | .tmp _ :: _,.blk .. :: _,_,h=>h.elim
  | .cell .. :: _,.slot :: _,_,h=>h.elim
theorem sN {fn:Func} {F:List aC} {b7:Value→List aC→Prop} {x:Exit} {l:List Value} {L:List aC} (gs:List yl) (js:List (Nat × Bool)) (k:Nat) (hp:b7 (one l) L) (hx:x=.ret ∨ x=.normal) (hr:vF P E H fn.results.toList gs l) (hj:preO js H=some L) (hF:(fH js H).drop k=F) :
    QH (xF P fn (Aj F b7)) x E H:=fun s ok hs=>by
  have h1:=nI js hs (nJ hj)
  subst hF
  have h2:(L++(fH js H).drop k).Sublist (L++fH js H):=List.Sublist.append (List.Sublist.refl _) (List.drop_sublist ..)
  have h3:Holds s (L++(fH js H).drop k):=⟨fun y hy=>h1.q y (h2.subset hy),fun b hb=>h1.own b (by
    obtain ⟨y,hy,hby⟩:=List.mem_flatMap.1 hb
    exact List.mem_flatMap.2 ⟨y,h2.subset hy,hby⟩),h1.nd.sublist (qb h2)⟩
  refine ⟨E,s,fun _=>rfl,rfl,?_⟩
  have main:∀ a,Ag fn.ntmps E a→∃ v,(results fn a.tmps).run P s.w=.ok v s.w∧Aj ((fH js H).drop k) b7 (.returned v) s.w:=fun a ag=>by
    refine ⟨one l,?_,one l,L,s,rfl,rfl,ok,hp,h3⟩
    have:=rf (P:=P) ag hs _ _ _ hr
    have e:(fn.results.mapM (m:=Sem) fun | .tmp t=>pure (a.tmps.getD t undef) | .cell p t=>do loadVar t (← asAddr (a.tmps.getD p undef))).run P s.w=.ok l.toArray s.w:=by
      rw [Array.mapM_eq_mapM_toList,Sem.run_map,this];rfl
    have e2:(results fn a.tmps).run P s.w=((fn.results.mapM (m:=Sem) fun | .tmp t=>pure (a.tmps.getD t undef) | .cell p t=>do loadVar t (← asAddr (a.tmps.getD p undef))).run P s.w).andThen
        (fun vs w=>(pure (if h:vs.size=1 then vs[0] else .tuple vs):Sem Value).run P w):=Sem.run_bind ..
    rw [e2,e]
    simp only [Result.andThen_ok,Sem.run_pure]
    congr 1
    match l with
    | []=>rfl
    | [v]=>rfl
    | v :: u :: r=>simp [one]
  rcases hx with rfl | rfl <;> exact main
/- ---- joins -/
def yY {X:Type} (EE:X→List (Nat × Value)) (HH:X→List aC) (C:X→Prop) (Q:b7):b7
  | .normal,E,s=>∃ x,C x∧agree (EE x) E∧s.Ok∧Holds s (HH x)
  | e,E,s=>Q e E s
theorem bB {X:Type} {c:Code} (EE:X→List (Nat × Value)) (HH:X→List aC) (C:X→Prop) (h1:WH P n c (yY EE HH C Q) E H) (h2:∀ x,C x→∀ j,QH Q .normal ⟨EE x,j⟩ (HH x)):WH P n c Q E H:=fun s ok hs a ag =>
  wp_mono (h1 s ok hs a ag) fun e a' w' hq=>by
    obtain ⟨E',s',ag',rfl,hq⟩:=hq
    cases e with
    | normal =>
      obtain ⟨x,hc,hag,ok',hs'⟩:=hq
      exact (h2 x hc E'.get).qa ok' hs' (ag'.trim hag)
    | _=>exact ⟨E',s',ag',rfl,hq⟩
theorem aU {X:Type} {EE:X→List (Nat × Value)} {HH:X→List aC} {C:X→Prop} (x:X) (hc:C x) (hE:agree (EE x) E) (hH:gI H (HH x)):QH (yY EE HH C Q) .normal E H:=fun s ok hs=>by
  obtain ⟨s',ew,ok',hs'⟩:=hH s ok hs
  exact ⟨E,s',fun _=>rfl,ew,x,hc,hE,ok',hs'⟩
theorem Cd {X:Type} {EE:X→List (Nat × Value)} {HH:X→List aC} {C:X→Prop} (h:QH Q .ret E H):QH (yY EE HH C Q) .ret E H:=h
/- ---- loops -/
def EU {S R:Type} (step:S→Option (Out S R)) (k:Nat) (r:R):Out S R→Prop
  | .go s'=>qE step k s'=some r
  | .fin r'=>r'=r
theorem y7 {S R:Type} {step:S→Option (Out S R)} {k:Nat} {s:S} {r:R} (h:qE step k s=some r):∃ k' o,k=k'+1∧step s=some o∧EU step k' r o:=by
  cases k with
  | zero=>cases h
  | succ k =>
    simp only [qE] at h
    split at h
    · cases h
    · rename_i s' hs;exact ⟨k,_,rfl,hs,h⟩
    · rename_i r' hs;exact ⟨k,_,rfl,hs,Option.some.inj h⟩
def Eu {S R G:Type} (step:S→Option (Out S R)) (r:R) (EE:S→G→List (Nat × Value)) (HH:S→G→List aC) (k:Nat) (Q:b7):b7
  | .normal,E,s=>∃ s' g',qE step k s'=some r∧agree (EE s' g') E∧s.Ok∧Holds s (HH s' g')
  | e,E,s=>Q e E s
theorem EP {S R G:Type} {c:Code} {step:S→Option (Out S R)} {r:R} {N:Nat} {s0:S} (EE:S→G→List (Nat × Value)) (HH:S→G→List aC) (g0:G) (hl:qE step N s0=some r) (hE:agree (EE s0 g0) E) (hH:gI H (HH s0 g0))
    (round:∀ k s g o,step s=some o→EU step k r o→∀ j,WH P n c (Eu step r EE HH k Q) ⟨EE s g,j⟩ (HH s g)):WH P n (.loop c) Q E H:=by
  refine uF (X:=Nat × S × G) (fun x=>qE step x.1 x.2.1=some r) (fun x=>EE x.2.1 x.2.2) (fun x=>HH x.2.1 x.2.2) (fun x=>x.1) (N,s0,g0) hl hE hH ?_
  rintro ⟨k,s,g⟩ hI j st ok hs a ag
  obtain ⟨k',o,rfl,hst,hn⟩:=y7 hI
  refine wp_mono (round k' s g o hst hn j st ok hs a ag) fun e a' w' hq=>?_
  obtain ⟨E',s',ag',rfl,hq⟩:=hq
  cases e with
  | normal =>
    obtain ⟨s1,g1,h1,h2,h3,h4⟩:=hq
    exact ⟨E',s',ag',rfl,(k',s1,g1),h1,Nat.lt_succ_self _,h2,h3,h4⟩
  | _=>exact ⟨E',s',ag',rfl,hq⟩
theorem GH {S R G:Type} {step:S→Option (Out S R)} {r:R} {EE:S→G→List (Nat × Value)} {HH:S→G→List aC} {k:Nat} {s':S} (g':G) (h:EU step k r (.go s')) (hE:agree (EE s' g') E) (hH:gI H (HH s' g')):QH (Eu step r EE HH k Q) .normal E H:=fun s ok hs=>by
  obtain ⟨s1,ew,ok',hs'⟩:=hH s ok hs
  exact ⟨E,s1,fun _=>rfl,ew,s',g',h,hE,ok',hs'⟩
theorem zE {S R G:Type} {step:S→Option (Out S R)} {r:R} {EE:S→G→List (Nat × Value)} {HH:S→G→List aC} {k:Nat} (h:QH Q .ret E H):QH (Eu step r EE HH k Q) .ret E H:=h
theorem kF {S R G:Type} {step:S→Option (Out S R)} {r:R} {EE:S→G→List (Nat × Value)} {HH:S→G→List aC} {k i:Nat} (h:QH Q (.exit i) E H):QH (Eu step r EE HH k Q) (.exit i) E H:=h
def Fc {S R:Type} (body:Nat→S→Option (Out S R)) (rem k:Nat) (r:Out S R):Out S R→Prop
  | .go s'=>nM body rem (k+1) s'=some r
  | .fin r'=>.fin r'=r
def Ff {S R G:Type} (body:Nat→S→Option (Out S R)) (r:Out S R) (EE:Nat→S→G→List (Nat × Value)) (HH:Nat→S→G→List aC) (rem k:Nat) (Q:b7):b7
  | .normal,E,s=>∃ s' g',nM body rem (k+1) s'=some r∧agree (EE (k+1) s' g') E∧s.Ok∧Holds s (HH (k+1) s' g')
  | e,E,s=>Q e E s
def Fg (Q:b7):b7
  | .normal,_,_=>False
  | e,E,s=>Q e E s
theorem Gt {S R G:Type} {c:Code} {body:Nat→S→Option (Out S R)} {r:Out S R} {N k0:Nat} {s0:S} (EE:Nat→S→G→List (Nat × Value)) (HH:Nat→S→G→List aC) (g0:G) (hl:nM body (N - k0) k0 s0=some r) (hN:k0≤N) (hE:agree (EE k0 s0 g0) E) (hH:gI H (HH k0 s0 g0))
    (last:∀ s g,r=.go s→∀ j,WH P n c (Fg Q) ⟨EE N s g,j⟩ (HH N s g))
    (round:∀ rem k s g o,k0≤k∧k < N→body k s=some o→Fc body rem k r o→∀ j,WH P n c (Ff body r EE HH rem k Q) ⟨EE k s g,j⟩ (HH k s g)):WH P n (.loop c) Q E H:=by
  refine uF (X:=Nat × Nat × S × G) (fun x=>nM body x.1 x.2.1 x.2.2.1=some r∧x.1+x.2.1=N∧k0≤x.2.1) (fun x=>EE x.2.1 x.2.2.1 x.2.2.2) (fun x=>HH x.2.1 x.2.2.1 x.2.2.2) (fun x=>x.1) (N - k0,k0,s0,g0) ⟨hl,by simp only;omega,Nat.le_refl _⟩ hE hH ?_
  rintro ⟨rem,k,s,g⟩ ⟨hI,hk,hk0⟩ j st ok hs a ag
  simp only at hI hk hk0
  cases rem with
  | zero =>
    have e:k=N:=by omega
    subst e
    refine wp_mono (last s g (Option.some.inj hI).symm j st ok hs a ag) fun e a' w' hq=>?_
    obtain ⟨E',s',ag',rfl,hq⟩:=hq
    cases e with
    | normal=>exact hq.elim
    | _=>exact ⟨E',s',ag',rfl,hq⟩
  | succ rem =>
    simp only [nM] at hI
    have hb:∃ o,body k s=some o∧Fc body rem k r o:=by
      split at hI
      · cases hI
      · rename_i s' h;exact ⟨_,h,hI⟩
      · rename_i r' h;exact ⟨_,h,Option.some.inj hI⟩
    obtain ⟨o,ho,hn⟩:=hb
    refine wp_mono (round rem k s g o ⟨hk0,by omega⟩ ho hn j st ok hs a ag) fun e a' w' hq=>?_
    obtain ⟨E',s',ag',rfl,hq⟩:=hq
    cases e with
    | normal =>
      obtain ⟨s1,g1,h1,h2,h3,h4⟩:=hq
      exact ⟨E',s',ag',rfl,(rem,k+1,s1,g1),⟨h1,by simp only;omega,by simp only;omega⟩,Nat.lt_succ_self _,h2,h3,h4⟩
    | _=>exact ⟨E',s',ag',rfl,hq⟩
theorem E9 {S R G:Type} {body:Nat→S→Option (Out S R)} {r:Out S R} {EE:Nat→S→G→List (Nat × Value)} {HH:Nat→S→G→List aC} {rem k:Nat} {s':S} (g':G) (h:Fc body rem k r (.go s')) (hE:agree (EE (k+1) s' g') E) (hH:gI H (HH (k+1) s' g')) :
    QH (Ff body r EE HH rem k Q) .normal E H:=fun s ok hs=>by
  obtain ⟨s1,ew,ok',hs'⟩:=hH s ok hs
  exact ⟨E,s1,fun _=>rfl,ew,s',g',h,hE,ok',hs'⟩
theorem eh {S R G:Type} {body:Nat→S→Option (Out S R)} {r:Out S R} {EE:Nat→S→G→List (Nat × Value)} {HH:Nat→S→G→List aC} {rem k:Nat} (h:QH Q .ret E H):QH (Ff body r EE HH rem k Q) .ret E H:=h
theorem aS {i:Nat} (h:QH Q (.exit i) E H):QH (Fg Q) (.exit i) E H:=h
theorem fj {k k0 N:Nat} (h:k0≤k∧k < N):decide ((k:Int) < (N:Int))=true:=decide_eq_true (by omega)
theorem fv {N:Nat}:decide ((N:Int) < (N:Int))=false:=decide_eq_false (by omega)
/-- a range that never ends early -/
def F0 {S G:Type} (body:Nat→S→Option S) (r:S) (EE:Nat→S→G→List (Nat × Value)) (HH:Nat→S→G→List aC) (rem k:Nat) (Q:b7):b7
  | .normal,E,s=>∃ s' g',ea body rem (k+1) s'=some r∧agree (EE (k+1) s' g') E∧s.Ok∧Holds s (HH (k+1) s' g')
  | e,E,s=>Q e E s
theorem sy {S G:Type} {c:Code} {body:Nat→S→Option S} {r:S} {N k0:Nat} {s0:S} (EE:Nat→S→G→List (Nat × Value)) (HH:Nat→S→G→List aC) (g0:G) (hl:ea body (N - k0) k0 s0=some r) (hN:k0≤N) (hE:agree (EE k0 s0 g0) E) (hH:gI H (HH k0 s0 g0))
    (last:∀ g j,WH P n c (Fg Q) ⟨EE N r g,j⟩ (HH N r g))
    (round:∀ rem k s g s',k0≤k∧k < N→body k s=some s'→ea body rem (k+1) s'=some r→∀ j,WH P n c (F0 body r EE HH rem k Q) ⟨EE k s g,j⟩ (HH k s g)):WH P n (.loop c) Q E H:=by
  refine uF (X:=Nat × Nat × S × G) (fun x=>ea body x.1 x.2.1 x.2.2.1=some r∧x.1+x.2.1=N∧k0≤x.2.1) (fun x=>EE x.2.1 x.2.2.1 x.2.2.2) (fun x=>HH x.2.1 x.2.2.1 x.2.2.2) (fun x=>x.1) (N - k0,k0,s0,g0) ⟨hl,by simp only;omega,Nat.le_refl _⟩ hE hH ?_
  rintro ⟨rem,k,s,g⟩ ⟨hI,hk,hk0⟩ j st ok hs a ag
  simp only at hI hk hk0
  cases rem with
  | zero =>
    have e:k=N:=by omega
    subst e
    cases hI
    refine wp_mono (last g j st ok hs a ag) fun e a' w' hq=>?_
    obtain ⟨E',s',ag',rfl,hq⟩:=hq
    cases e with
    | normal=>exact hq.elim
    | _=>exact ⟨E',s',ag',rfl,hq⟩
  | succ rem =>
    simp only [ea] at hI
    split at hI
    · cases hI
    · rename_i s' hb
      refine wp_mono (round rem k s g s' ⟨hk0,by omega⟩ hb hI j st ok hs a ag) fun e a' w' hq=>?_
      obtain ⟨E',s1,ag',rfl,hq⟩:=hq
      cases e with
      | normal =>
        obtain ⟨s2,g1,h1,h2,h3,h4⟩:=hq
        exact ⟨E',s1,ag',rfl,(rem,k+1,s2,g1),⟨h1,by simp only;omega,by simp only;omega⟩,Nat.lt_succ_self _,h2,h3,h4⟩
      | _=>exact ⟨E',s1,ag',rfl,hq⟩
theorem GI {S G:Type} {body:Nat→S→Option S} {r:S} {EE:Nat→S→G→List (Nat × Value)} {HH:Nat→S→G→List aC} {rem k:Nat} {s':S} (g':G) (h:ea body rem (k+1) s'=some r) (hE:agree (EE (k+1) s' g') E) (hH:gI H (HH (k+1) s' g')) :
    QH (F0 body r EE HH rem k Q) .normal E H:=fun s ok hs=>by
  obtain ⟨s1,ew,ok',hs'⟩:=hH s ok hs
  exact ⟨E,s1,fun _=>rfl,ew,s',g',h,hE,ok',hs'⟩
theorem iF {k k0:Nat} {z:Int} (h:k0≤k∧k < max k0 z.toNat):decide ((k:Int) < z)=true:=decide_eq_true (by omega)
theorem iE {k0:Nat} {z:Int}:decide (((max k0 z.toNat:Nat):Int) < z)=false:=decide_eq_false (by omega)
theorem Fb {k k0:Nat} {z:Int} (h:k0≤k∧k < max k0 (z+1).toNat):decide ((k:Int)≤z)=true:=decide_eq_true (by omega)
theorem Fa {k0:Nat} {z:Int}:decide (((max k0 (z+1).toNat:Nat):Int)≤z)=false:=decide_eq_false (by omega)
/-- heap to heap: what is wanted is taken out, k items beside it are forgotten -/
theorem G5 {js:List (Nat × Bool)} {k:Nat} {L:List aC} (hj:preO js H=some L) (hF:(fH js H).drop k=F):gI H (L++F):=fun s ok hs=>⟨s,rfl,ok,by
    have h1:=nI js hs (nJ hj)
    subst hF
    have h2:(L++(fH js H).drop k).Sublist (L++fH js H):=List.Sublist.append (List.Sublist.refl _) (List.drop_sublist ..)
    refine ⟨fun y hy=>h1.q y (h2.subset hy),fun b hb=>h1.own b ?_,h1.nd.sublist ?_⟩
    · obtain ⟨y,hy,hby⟩:=List.mem_flatMap.1 hb
      exact List.mem_flatMap.2 ⟨y,h2.subset hy,hby⟩
    · exact qb h2⟩
theorem GM {js:List (Nat × Bool)} {k:Nat} {L B:List aC} (hj:preO js H=some (L++B)) (hF:(fH js H).drop k=F):gI H (L++(B++F)):=by
  rw [← List.append_assoc];exact G5 hj hF
theorem C1 {l:List (Nat × Value)} (h:(l.map (·.1)).map E.get=l.map (·.2)):agree l E:=tR h
/-- a slot's value, spelt anew -/
theorem GN {ops:pp} {i t:Nat} {b c:Bool} (hb:b=c) (h:E.get t=.bool b) (g:WI P n ops i Q (E.put t (.bool c)) H):WI P n ops i Q E H:=fun s ok hs act ag=>by
  refine g s ok hs act (ag.same fun u=>?_)
  rw [Env.get_put]
  split
  · rename_i hu;subst hu;rw [h,hb]
  · rfl
def Hc (T:qD) (E:Env) (o:Oper):Option Value:=re T E o
/-- An operation that only computes, its value spelt anew. -/
theorem o9 {T:qD} {ops:pp} {i:Nat} (hT:T.ok P=true) {v v':Value} (e:v=v') (h:dec n ops E i (Hc T)=some v) (g:WI P n ops (i+1) Q (E.putO (dM ops i) v') H):WI P n ops i Q E H:=by
  subst e
  exact o8 h (fun o ho s _ _=>nL hT ho s.w) g
def Gj (P:Program) (n:Nat) (ops:pp) (E:Env) (i:Nat) (w:World):Option (Result Next):=dec n ops E i (fun E o=>some ((execOp E.ev o).run P w))
/-- An operation that the kernel runs by itself, in whatever world. -/
theorem aX {ops:pp} {i:Nat} {v:Value} (h:∀ w,Gj P n ops E i w=some (.ok (.value v) w)) (g:WI P n ops (i+1) Q (E.putO (dM ops i) v) H):WI P n ops i Q E H:=by
  obtain ⟨o,h1,h2,h3,h4,h5⟩:=oy (h default)
  rw [h5] at g
  refine uH (X:=Unit) (C:=fun _=>True) (V:=fun _=>v) (H':=fun _=>H) h1 h2 h3 (fun s ok hs=>⟨(),s,?_,trivial,ok,hs⟩) (fun _ _=>g)
  obtain ⟨o',h1',_,_,h4',_⟩:=oy (h s.w)
  rw [h1] at h1'
  cases h1'
  exact Option.some.inj h4'
def Gq (E:Env) (o:Oper):Option (Bool × Value × Value) :=
  match o.op with
  | .call c=>match c.callee,c.args.toList with
    | .builtin .max,[x,y]=>some (true,E.ev x,E.ev y)
    | .builtin .min,[x,y]=>some (false,E.ev x,E.ev y)
    | _,_=>none
  | _=>none
theorem Az {o:Oper} {m:Bool} {k:IntKind} {x y z:Int} {w:World} (h:Gq E o=some (m,.int k x,.int k y)) (hz:z=(match m with | true=>if y > x then y else x | false=>if y < x then y else x)):(execOp E.ev o).run P w=.ok (.value (.int k z)) w:=by
  unfold Gq at h
  split at h
  · rename_i c hop
    split at h
    · rename_i x' y' hc ha
      simp only [Option.some.injEq,Prod.mk.injEq] at h
      obtain ⟨rfl,hx,hy⟩:=h
      obtain ⟨callee,args,argTypes⟩:=c
      simp only at hc ha
      have ha':args=#[x',y']:=by rw [← Array.toArray_toList (xs:=args),ha]
      subst ha';subst hc;subst hz
      unfold execOp
      rw [hop]
      simp [resolve,invoke,builtin,hx,hy,Builtin.max_,Builtin.max2]
    · rename_i x' y' hc ha
      simp only [Option.some.injEq,Prod.mk.injEq] at h
      obtain ⟨rfl,hx,hy⟩:=h
      obtain ⟨callee,args,argTypes⟩:=c
      simp only at hc ha
      have ha':args=#[x',y']:=by rw [← Array.toArray_toList (xs:=args),ha]
      subst ha';subst hc;subst hz
      unfold execOp
      rw [hop]
      simp [resolve,invoke,builtin,hx,hy,Builtin.min_,Builtin.min2]
    · cases h
  · cases h
theorem Eh {ops:pp} {i:Nat} {x y z:Int} (hz:some (min x y)=some z) (h:dec n ops E i Gq=some (false,.int .i64 x,.int .i64 y)) (g:WI P n ops (i+1) Q (E.putO (dM ops i) (.int .i64 z)) H):WI P n ops i Q E H :=
  o8 h (fun o ho s _ _=>Az ho (by cases hz;simp only;omega)) g
/-- an element of an array of numbers -/
def Fo (P:Program) (t:TypeId):Option (Nat × TypeId):=match P.underlying t with | some (.array n e)=>some (n,e) | _=>none
def EK (E:Env) (o:Oper):Option (TypeId × Value × Value):=match o.op with | .index t x y=>some (t,E.ev x,E.ev y) | _=>none
theorem Fs {ops:pp} {i:Nat} {t e:TypeId} {by_ m:Nat} {z:Value} {k:IntKind} {xs:List Int} {x:Int} (hx:xs[m]?=some x) (h:dec n ops E i EK=some (t,.agg (xs.map (Value.int .i64)).toArray,.int k (m:Int))) (ht:Fo P t=some (xs.length,e)) (he:cM P e=some (false,1,by_,z))
    (g:WI P n ops (i+1) Q (E.putO (dM ops i) (.int .i64 x)) H):WI P n ops i Q E H :=
  o8 h (fun o ho s _ _=>by
    unfold EK at ho
    split at ho
    · rename_i t' a b hop
      simp only [Option.some.injEq,Prod.mk.injEq] at ho
      obtain ⟨rfl,ha,hb⟩:=ho
      obtain ⟨ii,d,hi,hd,hagg,hsz,_,_⟩:=fY he
      have hu:P.underlying t'=some (.array xs.length e):=by
        unfold Fo at ht
        split at ht
        · rename_i n' e' hu;cases ht;exact hu
        · cases ht
      have hlt:=(List.getElem?_eq_some_iff.1 hx).1
      have hs:(Go.sizeOf e).run P s.w=.ok 1 s.w:=by simp [Go.sizeOf,typeInfo,hi,hsz]
      have hag:(isAgg e).run P s.w=.ok false s.w:=by rw [tI hd,hagg]
      unfold execOp
      rw [hop]
      refine c8 ?_
      rw [ha,hb]
      have hc:((xs.map (Value.int .i64)).toArray)[m]?=some (.int .i64 x):=by simp [hx]
      have hi2:(0:Int)≤(m:Int)∧((m:Nat):Int) < ((xs.length:Nat):Int):=by omega
      simp [Instr.index,asIntOf,run_underlying hu,hs,part,hag,hlt]
      exact (List.getElem?_eq_some_iff.1 hx).2
    · cases ho) g
/-- a slice beside nil -/
def G3 (E:Env) (o:Oper):Option (Bool × TypeId × Value) :=
  match o.op with
  | .binOp .eql t x y _=>match E.ev y with | .slice none _ _=>some (true,t,E.ev x) | _=>none
  | .binOp .neq t x y _=>match E.ev y with | .slice none _ _=>some (false,t,E.ev x) | _=>none
  | _=>none
theorem tG {t e:TypeId} (ht:oj P t=some e) (A:Option Addr) (N c a b:Nat) (w:World):(Op.equal t (.slice A N c) (.slice none a b)).run P w=.ok A.isNone w:=by
  have hu:=iL ht
  have e:Op.equal t (.slice A N c) (.slice none a b)=Op.equalIn (Nat.pred Op.maxDepth+1) t (.slice A N c) (.slice none a b):=rfl
  rw [e,Op.equalIn]
  cases A <;> simp [run_underlying hu]
theorem Fv {α:Type} {kd:Kd α} {ops:pp} {i:Nat} {t e:TypeId} {v:Value} {xs:List α} {b:Bool} (j:Nat) (hp:pick H j=some (nt kd v xs)) (h:dec n ops E i G3=some (b,t,v)) (ht:oj P t=some e)
    (g1:(∃ c,v=.slice none 0 c)→xs=[]→WI P n ops (i+1) Q (E.putO (dM ops i) (.bool b)) H) (g2:WI P n ops (i+1) Q (E.putO (dM ops i) (.bool !b)) H):WI P n ops i Q E H:=fun s ok hs=>by
  obtain ⟨A,c,rfl,_,_,_,hq⟩:=hs.q _ (bp hp)
  have key:WI P n ops (i+1) Q (E.putO (dM ops i) (.bool (if A.isNone then b else !b))) H:=by
    cases A with
    | none =>
      have hx:xs=[]:=by
        rcases hq with h | ⟨_,_,_,_,_,_,h,_⟩
        · exact h
        · cases h
      subst hx
      exact g1 ⟨c,rfl⟩ rfl
    | some a=>exact g2
  refine o8 h (fun o ho s _ _=>?_) key s ok hs
  unfold G3 at ho
  split at ho
  · rename_i t' x y yt hop
    split at ho
    · rename_i hy
      simp only [Option.some.injEq,Prod.mk.injEq] at ho
      obtain ⟨rfl,rfl,hx⟩:=ho
      unfold execOp
      rw [hop]
      refine c8 ?_
      simp only [hx,hy]
      cases A <;> simp [eqGuard,Go.binOp,tG ht]
    · cases ho
  · rename_i t' x y yt hop
    split at ho
    · rename_i hy
      simp only [Option.some.injEq,Prod.mk.injEq] at ho
      obtain ⟨rfl,rfl,hx⟩:=ho
      unfold execOp
      rw [hop]
      refine c8 ?_
      simp only [hx,hy]
      cases A <;> simp [eqGuard,Go.binOp,tG ht]
    · cases ho
  · cases ho
theorem WI.hd {ops:pp} {i:Nat} {x y:aC} (e:x=y) (g:WI P n ops i Q E (y :: H)):WI P n ops i Q E (x :: H):=e ▸ g
/-- an item is frozen in its place -/
theorem bk {α:Type} {kd:Kd α} {e:TypeId} {v:Value} {xs:List α} {H:List aC} (j:Nat) (hp:pick H j=some (bb kd e v xs)):gI H (nt kd v xs :: bo H j):=fun s ok hs=>gI.frz s ok (Holds.out hs hp)
theorem bv {v:Value} {N:Nat} (h:ra H v N):∀ s,Holds s H→v.oneCell'=true:=fun s hs=>by
  obtain ⟨A,c,hv,_⟩:=h s hs
  rw [hv];rfl
theorem oN:∀ s,Holds s H→∀ u ∈ ([]:List Value),u.oneCell'=true:=fun _ _ _ h=>nomatch h
theorem oC {c:Value} {cs:List Value} (h:∀ s,Holds s H→c.oneCell'=true) (t:∀ s,Holds s H→∀ u ∈ cs,u.oneCell'=true):∀ s,Holds s H→∀ u ∈ c :: cs,u.oneCell'=true:=fun s hs u hu=>by
  rcases List.mem_cons.1 hu with rfl | hu
  · exact h s hs
  · exact t s hs u hu
theorem dD {α:Type} {kd:Kd α}:∀ s,Holds s H→bV kd s [] []:=fun _ _=>rfl
theorem cx {α:Type} {kd:Kd α} {x:α} {g:kd.G} {xs:List α} {cs:List Value} (hi:∀ s,Holds s H→∀ a ∈ kd.items x g,a.q s) (hr:∀ s,Holds s H→bV kd s xs cs):∀ s,Holds s H→bV kd s (x :: xs) (kd.cells x g++cs):=fun s hs =>
  ⟨kd.cells x g,cs,rfl,⟨g,rfl,hi s hs⟩,hr s hs⟩
theorem bE {α:Type} {xs:List α} {k:Nat} {x:α} (h:xs[k]?=some x):k < xs.length:=(List.getElem?_eq_some_iff.1 h).1
theorem FY:FZ none 0:=rfl
theorem CL {k:IntKind} {l:Int}:FZ (some (.int k l)) l:=⟨k,rfl⟩
theorem FW {N:Nat}:Gu none (N:Int) N:=rfl
theorem Dx {k:IntKind} {h:Int} {N:Nat}:Gu (some (.int k h)) h N:=⟨k,rfl⟩
theorem tj {a b c:Nat} (h:some (nv a b)=some c):lf .add .u64 (a:Int) (b:Int)=some (c:Int):=by cases h;exact Fw
theorem va {a b c:Nat} (h:some (te a b)=some c):lf .sub .u64 (a:Int) (b:Int)=some (c:Int):=by cases h;exact FB
theorem u7 {a b c:Nat} (h:some (rM a b)=some c):lf .mul .u64 (a:Int) (b:Int)=some (c:Int):=by cases h;exact FA
theorem u6 {a b c:Nat} (h:some (rz a b)=some c):lf .and .u64 (a:Int) (b:Int)=some (c:Int):=by cases h;exact Fy
theorem Gk {a b c:Nat} (h:some (EY a b)=some c):lf .or .u64 (a:Int) (b:Int)=some (c:Int):=by cases h;exact GO
theorem Ac {a:Int} {c:Nat} (h:some (tf a)=some c):IntKind.u64.wrap a=(c:Int):=by cases h;exact Hk
theorem a8 {k k0 N:Nat} (h:k0≤k∧k < N) (hN:N < 9223372036854775807):lf .add .i64 (k:Int) ((1:Nat):Int)=some ((k+1:Nat):Int):=bQ (by unfold dY Ar;rw [if_pos (by omega)];rfl)
theorem lH {n:Nat} {u:Unit} (h:mQ n=some u):n < 9223372036854775807:=by unfold mQ at h;split at h;assumption;cases h
theorem aV {α:Type} {kd:Kd α} {v:Value} {xs:List α} (j:Nat) (hp:pick H j=some (nt kd v xs)):∀ s,Holds s H→xs.length < 9223372036854775807:=fun s hs=>by
  obtain ⟨A,c,_,_,_,h,_⟩:=hs.q _ (bp hp);omega
theorem e7 {α:Type} {kd:Kd α} {e:TypeId} {v:Value} {xs:List α} (j:Nat) (hp:pick H j=some (bb kd e v xs)):∀ s,Holds s H→xs.length < 9223372036854775807:=fun s hs=>by
  obtain ⟨A,c,_,_,_,h,_⟩:=hs.q _ (bp hp);omega
theorem aN {cd:Code} {q:Prop} (hq:∀ s,Holds s H→q) (g:q→WH P n cd Q E H):WH P n cd Q E H:=fun s ok hs=>g (hq s hs) s ok hs
theorem dO {α:Type} {a b:α} (h:some a=some b):b=a:=(Option.some.inj h).symm
/-- A test whose outcome is known. -/
theorem dU {c:Operand} {x y:Code} {b:Bool} (hb:b=true) (hc:E.ev c=.bool b) (ht:WH P n x Q E H):WH P n (.cond c x y) Q E H:=xx b hc (fun _=>ht) (fun h=>by rw [hb] at h;cases h)
theorem bA {c:Operand} {x y:Code} {b:Bool} (hb:b=false) (hc:E.ev c=.bool b) (ht:WH P n y Q E H):WH P n (.cond c x y) Q E H:=xx b hc (fun h=>by rw [hb] at h;cases h) (fun _=>ht)
end
end Gw
