/- Own words: numbers, calls, ends, joins and loops, told by the printed plain functions. -/
import Derived.Test.YtkmbblnepjofaaaGreatDoorGw4
set_option linter.unusedVariables false
namespace Gw
open Go Gv

def IM {α:Type} (xs:List α) (i:Int) (x:α):Option (List α):=if 0≤i∧i.toNat < xs.length then some (xs.set i.toNat x) else none
theorem ib {α:Type} {xs:List α} {i:Int} {x:α} (h:iK xs i=some x):i.toNat < xs.length:=by
  unfold iK at h;split at h
  · exact (List.getElem?_eq_some_iff.1 h).1
  · cases h
theorem iz {α:Type} {xs:List α} {i:Int} {x:α} (h:iK xs i=some x):i=(i.toNat:Int):=by
  unfold iK at h;split at h
  · omega
  · cases h
theorem ig {α:Type} {xs:List α} {i:Int} {x:α} (h:iK xs i=some x):xs[i.toNat]?=some x:=by
  unfold iK at h;split at h
  · exact h
  · cases h
theorem sz {α:Type} {xs ys:List α} {i:Int} {x:α} (h:IM xs i x=some ys):i=(i.toNat:Int):=by
  unfold IM at h;split at h
  · omega
  · cases h
/-- the printed functions' steps -/
theorem uK {α β:Type} {x:Option α} {f:α→Option β} {r:β} (h:(x >>= f)=some r):∃ a,x=some a∧f a=some r:=by
  cases x with
  | none=>cases h
  | some a=>exact ⟨a,rfl,h⟩
theorem H6 {α:Type} {c:Bool} {x y:Option α} {r:α} (h:(bif c then x else y)=some r):(c=true∧x=some r) ∨ (c=false∧y=some r):=by
  cases c with
  | true=>exact .inl ⟨rfl,h⟩
  | false=>exact .inr ⟨rfl,h⟩

/- ---- numbers -/
def mC (op:BinOp) (k:IntKind) (m n:Int):Option Int :=
  match op with
  | .add=>some (k.wrap (m+n))
  | .sub=>some (k.wrap (m - n))
  | .mul=>some (k.wrap (m*n))
  | .quo=>if n=0 then none else some (k.wrap (m.tdiv n))
  | .rem=>if n=0 then none else some (m.tmod n)
  | .and=>some (k.wrap ((BitVec.ofInt k.bits m) &&& (BitVec.ofInt k.bits n)).toNat)
  | .or=>some (k.wrap ((BitVec.ofInt k.bits m) ||| (BitVec.ofInt k.bits n)).toNat)
  | .xor=>some (k.wrap ((BitVec.ofInt k.bits m) ^^^ (BitVec.ofInt k.bits n)).toNat)
  | _=>none
theorem wrap_u64 (a:Nat):IntKind.u64.wrap (a:Int)=((a % 18446744073709551616:Nat):Int):=by
  simp [IntKind.wrap,IntKind.bits,IntKind.signed]
theorem vj (z:Int):IntKind.u64.wrap z=((qP z:Nat):Int):=by
  simp [IntKind.wrap,IntKind.bits,IntKind.signed,qP];omega
theorem rK (a:Nat):(BitVec.ofInt 64 (a:Int)).toNat=a % 18446744073709551616:=by
  simp
theorem Je {a b:Nat}:mC .add .u64 (a:Int) (b:Int)=some ((lS a b:Nat):Int):=by
  simp only [mC,lS];rw [← Int.natCast_add,wrap_u64]
theorem Jg {a b:Nat}:mC .mul .u64 (a:Int) (b:Int)=some ((tz a b:Nat):Int):=by
  simp only [mC,tz];rw [← Int.natCast_mul,wrap_u64]
theorem Jh {a b:Nat}:mC .sub .u64 (a:Int) (b:Int)=some ((uT a b:Nat):Int):=by
  simp only [mC,uT];rw [vj];rfl
theorem Jf {a b:Nat}:mC .and .u64 (a:Int) (b:Int)=some ((ti a b:Nat):Int):=by
  show some (IntKind.u64.wrap (((BitVec.ofInt 64 (a:Int) &&& BitVec.ofInt 64 (b:Int):BitVec 64).toNat:Nat):Int))=_
  rw [wrap_u64,BitVec.toNat_and,rK,rK,Nat.mod_eq_of_lt (Nat.lt_of_le_of_lt Nat.and_le_left (Nat.mod_lt _ (by decide)))];rfl
theorem Km {a b:Nat}:mC .or .u64 (a:Int) (b:Int)=some ((Ir a b:Nat):Int):=by
  show some (IntKind.u64.wrap (((BitVec.ofInt 64 (a:Int) ||| BitVec.ofInt 64 (b:Int):BitVec 64).toNat:Nat):Int))=_
  rw [wrap_u64,BitVec.toNat_or,rK,rK,Nat.mod_eq_of_lt (Nat.or_lt_two_pow (n:=64) (Nat.mod_lt _ (by decide)) (Nat.mod_lt _ (by decide)))];rfl
theorem ow {z c:Int} (h:C0 z=some c):c=z ∧ -9223372036854775808≤z∧z < 9223372036854775808:=by
  unfold C0 at h;split at h
  · cases h;exact ⟨rfl,by assumption⟩
  · cases h
theorem tP {z c:Int} (h:C0 z=some c):IntKind.i64.wrap z=c:=by
  obtain ⟨rfl,h1,h2⟩:=ow h
  rw [IntKind.wrap_i64];omega
theorem cS {a b c:Int} (h:fI a b=some c):mC .add .i64 a b=some c:=by simp only [mC];rw [tP h]
theorem gT {a b c:Int} (h:kj a b=some c):mC .sub .i64 a b=some c:=by simp only [mC];rw [tP h]
theorem kM {a b c:Int} (h:mf a b=some c):mC .mul .i64 a b=some c:=by simp only [mC];rw [tP h]
theorem xq {a b c:Int} (h:ub a b=some c):mC .quo .i64 a b=some c:=by
  unfold ub at h;split at h
  · cases h
  · simp only [mC];rw [if_neg (by assumption),tP h]
section
variable {P:Program} {n:Nat} {Q:cI} {E:Env} {H F:List aA} {ops:qR} {i:Nat}
def Jx (E:Env) (o:Oper):Option (BinOp × IntKind × IntKind × Int × Int) :=
  match o.op with
  | .binOp op _ x y _=>match E.ev x,E.ev y with
    | .int k a,.int k' b=>some (op,k,k',a,b)
    | _,_=>none
  | _=>none
theorem wD {o:Oper} {op:BinOp} {k k':IntKind} {a b:Int} (h:Jx E o=some (op,k,k',a,b)):∃ t yt x y,o.op=.binOp op t x y yt∧E.ev x=.int k a∧E.ev y=.int k' b:=by
  unfold Jx at h
  split at h
  · rename_i op' t x y yt hop
    split at h
    · rename_i hx hy;cases h;exact ⟨t,yt,x,y,hop,hx,hy⟩
    · cases h
  · cases h
theorem aD {op:BinOp} {k:IntKind} {a b z:Int} (hz:mC op k a b=some z) (h:dec n ops E i Jx=some (op,k,k,a,b)) (g:WI P n ops (i+1) Q (E.putO (fk ops i) (.int k z)) H):WI P n ops i Q E H :=
  qC h (fun o ho s _ _=>by
    obtain ⟨t,yt,x,y,hop,hx,hy⟩:=wD ho
    unfold execOp
    rw [hop]
    simp only []
    rw [hx,hy]
    cases op <;> simp only [mC] at hz <;> try (cases hz;done)
    case quo =>
      split at hz
      · cases hz
      · rename_i h0;cases hz;simp [eqGuard,Go.binOp,Op.intDiv,h0]
    case rem =>
      split at hz
      · cases hz
      · rename_i h0;cases hz;simp [eqGuard,Go.binOp,Op.intDiv,h0]
    all_goals (cases hz;simp [eqGuard,Go.binOp,Op.intArith,Op.intBits])) g
theorem tC {op:BinOp} {k yk:IntKind} {a b z:Int} (hop:op=.shl ∨ op=.shr) (hz:(Op.shift op k a yk b)=pure (.int k z)) (h:dec n ops E i Jx=some (op,k,yk,a,b)) (g:WI P n ops (i+1) Q (E.putO (fk ops i) (.int k z)) H):WI P n ops i Q E H :=
  qC h (fun o ho s _ _=>by
    obtain ⟨t,yt,x,y,hop',hx,hy⟩:=wD ho
    unfold execOp
    rw [hop']
    simp only []
    rw [hx,hy]
    rcases hop with e | e <;> (subst e;simp [eqGuard,Go.binOp,hz])) g
theorem wa {a c:Nat} {b:Int} {yk:IntKind} (h:rB a b=some c):Op.shift .shr .u64 (a:Int) yk b=pure (.int .u64 (c:Int)):=by
  unfold rB at h;split at h
  · cases h
  · rename_i h0
    cases h
    simp only [Op.shift]
    rw [if_neg (by omega)]
    have:((a:Int)).fdiv (2 ^ (min b.toNat 64))=((a / 2 ^ (min b.toNat 64):Nat):Int):=by
      rw [Int.fdiv_eq_ediv_of_nonneg _ (Int.le_of_lt (Int.pow_pos (by decide)))]
      norm_cast
    rw [show min b.toNat IntKind.u64.bits=min b.toNat 64 from rfl,this]
theorem HF {a c:Nat} {b:Int} {yk:IntKind} (h:yc a b=some c):Op.shift .shl .u64 (a:Int) yk b=pure (.int .u64 (c:Int)):=by
  unfold yc at h;split at h
  · cases h
  · rename_i h0
    cases h
    simp only [Op.shift]
    rw [if_neg (by omega),show min b.toNat IntKind.u64.bits=min b.toNat 64 from rfl]
    have:(a:Int)*2 ^ (min b.toNat 64)=((a*2 ^ (min b.toNat 64):Nat):Int):=by norm_cast
    rw [this,wrap_u64]
def KC (T:sv) (E:Env) (o:Oper):Option (IntKind × Int) :=
  match o.op with
  | .convert st t x=>match E.ev x,Au T.ints t,Au T.ints st with
    | .int _ a,some k,some _=>some (k,a)
    | _,_,_=>none
  | _=>none
theorem uF {T:sv} (ht:T.ok P=true) {k:IntKind} {a z:Int} (hz:k.wrap a=z) (h:dec n ops E i (KC T)=some (k,a)) (g:WI P n ops (i+1) Q (E.putO (fk ops i) (.int k z)) H):WI P n ops i Q E H :=
  qC h (fun o ho s _ _=>by
    subst hz
    unfold KC at ho
    split at ho
    · rename_i hop
      split at ho
      · rename_i hx hk hs
        cases ho
        exact pu ht (by unfold sS;rw [hop];simp only [hx,hk,hs]) s.w
      · cases ho
    · cases ho) g
theorem KZ {a:Int}:IntKind.u64.wrap a=((qP a:Nat):Int):=vj a
/- ---- calls -/
/-- A contract, its arguments a list. -/
def Ct (P:Program) (f:FuncId) (l:List Value) (Pre:List aA) (cI:Value→List aA→Prop):Prop:=JC P f l.toArray Pre cI
/-- items are taken out (or copied, if nobody owns anything there) -/
def vN:List (Nat × Bool)→List aA→Option (List aA × List aA)
  | [],H=>some ([],H)
  | (j,cp) :: r,H=>match pick H j with
    | some x=>(match cp with
      | true=>(match zX x with
        | true=>(match vN r H with | some (L,R)=>some (x :: L,R) | none=>none)
        | false=>none)
      | false=>(match vN r (da H j) with | some (L,R)=>some (x :: L,R) | none=>none))
    | none=>none
theorem yY {x:aA} (h:zX x=true):x.bs=[]:=by unfold zX at h;split at h;assumption;cases h
theorem pk {s:St}:∀ (js:List (Nat × Bool)) {A H L R:List aA},Holds s (A++H)→vN js H=some (L,R)→Holds s (A++(L++R))
  | [],A,H,L,R,h,e=>by cases e;exact h
  | (j,cp) :: r,A,H,L,R,h,e=>by
    simp only [vN] at e
    split at e
    · rename_i x hx
      split at e
      · split at e
        · rename_i hpr
          split at e
          · rename_i L' R' hr
            cases e
            have h1:=pk r h hr
            have h2:=h1.consPr (yY hpr) (h.q x (List.mem_append_right _ (ct hx)))
            exact h2.perm (List.perm_middle (l₁:=A) (l₂:=L'++R) (a:=x)).symm
          · cases e
        · cases e
      · split at e
        · rename_i L' R' hr
          cases e
          have h1:Holds s ((A++[x])++da H j):=by
            rw [List.append_assoc]
            exact h.perm (List.Perm.append_left A (kI H j x hx))
          have h2:=pk r h1 hr
          rw [List.append_assoc] at h2;exact h2
        · cases e
    · cases e
theorem pn {s:St} (js:List (Nat × Bool)) {H L R:List aA} (h:Holds s H) (e:vN js H=some (L,R)):Holds s (L++R):=pk (A:=[]) js h e
def preO (js:List (Nat × Bool)) (H:List aA):Option (List aA):=match vN js H with | some (L,_)=>some L | none=>none
def iL (js:List (Nat × Bool)) (H:List aA):List aA:=match vN js H with | some (_,R)=>R | none=>[]
theorem po {js:List (Nat × Bool)} {H L:List aA} (h:preO js H=some L):vN js H=some (L,iL js H):=by
  unfold preO at h
  unfold iL
  split at h
  · rename_i L' R hr;cases h;rw [hr]
  · cases h
theorem BV {js:List (Nat × Bool)} {H L:List aA} (h:preO js H=some L):ka H (L++iL js H):=fun s ok hs=>⟨s,rfl,ok,pn js hs (po h)⟩
def pE (E:Env) (o:Oper):Option (FuncId × List Value) :=
  match o.op with
  | .call c=>match c.callee with
    | .value x=>match E.ev x with
      | .func (.func f) first captured=>some (f,first.toList++c.args.toList.map E.ev++captured.toList)
      | _=>none
    | _=>none
  | _=>none
def bf (P : Program) (f : FuncId) : Bool := match P.funcs[f]? with | some fn => fn.body.isSome && !(fn.name == "runtime.NumGoroutine") | none => false
theorem zP {o:Oper} {f:FuncId} {l:List Value} (h:pE E o=some (f,l)) (hf:bf P f=true) (w:World):(execOp E.ev o).run P w=.ok (.enter f l.toArray) w:=by
  unfold pE at h
  split at h
  · rename_i c hop
    split at h
    · rename_i x hc
      split at h
      · rename_i f' first captured hx
        simp only [Option.some.injEq,Prod.mk.injEq] at h
        obtain ⟨rfl,rfl⟩:=h
        unfold bf at hf
        split at hf
        · rename_i fn hfn
          simp only [Bool.and_eq_true,Bool.not_eq_true'] at hf
          have:=Ce (P:=P) (E:=E) (o:=o) hop hc hx hfn (by
            have h1:=hf.1
            cases hb:fn.body with
            | none=>rw [hb] at h1;cases h1
            | some _=>rfl) hf.2 w
          rw [this]
          congr 2
          apply Array.ext'
          simp
        · cases hf
      · cases h
    · cases h
  · cases h
/-- A call by contract. -/
theorem yf {f:FuncId} {l:List Value} {Pre:List aA} {cI:Value→List aA→Prop} (js:List (Nat × Bool)) (hspec:Ct P f l Pre cI) (hp:preO js H=some Pre) (hf:bf P f=true) (h:dec n ops E i pE=some (f,l))
    (g:∀ v L,cI v L→WI P n ops (i+1) Q (E.putO (fk ops i) v) (L++iL js H)):WI P n ops i Q E H:=by
  obtain ⟨o,h1,h2,h3,h4,h5⟩:=qe h
  rw [h5] at g
  exact Fy h1 h2 h3 (fun w=>zP h4 hf w) hspec (BV hp) g
/-- A call of a function without a body. -/
def FJ (P:Program) (f:FuncId) (e:Array Value→Sem Value):Prop :=
  ∃ fn, P.funcs[f]? = some fn ∧ (fn.name == "runtime.NumGoroutine") = false ∧ fn.body.isNone = true ∧ Extern.findNext fn = none ∧ Extern.find fn = some e
theorem IZ {f:FuncId} {l:List Value} {v:Value} {e:Array Value→Sem Value} (hf:FJ P f e) (hv:∀ w,(e l.toArray).run P w=.ok v w) (h:dec n ops E i pE=some (f,l)) (g:WI P n ops (i+1) Q (E.putO (fk ops i) v) H):WI P n ops i Q E H :=
  qC h (fun o ho s _ _=>by
    unfold pE at ho
    split at ho
    · rename_i c hop
      split at ho
      · rename_i x hc
        split at ho
        · rename_i f' first captured hx
          simp only [Option.some.injEq,Prod.mk.injEq] at ho
          obtain ⟨rfl,rfl⟩:=ho
          obtain ⟨fn,hfn,hn,hb,hx1,hx2⟩:=hf
          have hn' : ¬ fn.name = "runtime.NumGoroutine" := by simpa using hn
          have ha:(first++(c.args.map E.ev++captured))=(first.toList++c.args.toList.map E.ev++captured.toList).toArray:=by apply Array.ext';simp
          have hb':fn.body=none:=by simpa using hb
          unfold execOp
          rw [hop]
          have hv':=hv s.w
          rw [List.append_assoc] at hv' ha
          simp only [resolve,hc,hx,Deferred.ofValue,invoke,callFunc,Sem.run_bind,Sem.run_pure,Result.andThen_ok,Go.run_program,hfn]
          simp [hn',hb',hx1,hx2,mark,ha,Sem.run,hv']
        · cases ho
      · cases ho
    · cases ho) g
theorem Gb {x y a b:Nat} (h1:some (lS x y)=some a) (h2:some (CZ x y)=some b) (w:World):(add64Entry [.int .u64 (x:Int),.int .u64 (y:Int),.int .u64 ((0:Nat):Int)].toArray).run P w=.ok (.tuple #[.int .u64 (a:Int),.int .u64 (b:Int)]) w:=by
  cases h1;cases h2
  have:=run_add64 (P:=P) (x:Int) (y:Int) 0 (by omega) (by omega) (by omega) (by omega) w
  simpa [lS,CZ] using this
end

theorem rM {A B:List aA} (h:A.Sublist B):(e6 A).Sublist (e6 B):=by
  induction h with
  | slnil=>exact List.Sublist.refl _
  | cons a _ ih=>simp only [e6,List.flatMap_cons] at *;exact ih.trans (List.sublist_append_right _ _)
  | cons_cons a _ ih=>simp only [e6,List.flatMap_cons] at *;exact List.Sublist.append (List.Sublist.refl _) ih
/- ---- the function's start and end -/
theorem aj {P:Program} {f:FuncId} {fn:Func} {c:Code} {l:List Value} {Pre:List aA} {cI:Value→List aA→Prop}
    (hf:P.funcs[f]?=some fn) (hb:fn.body=some c) (hn:Nat.ble l.length fn.ntmps=true)
    (h:∀ F,WH P fn.ntmps c (zN P fn (CR F cI)) ⟨s6 0 l,fun _=>undef⟩ (Pre++F)):Ct P f l Pre cI:=zK hf hb hn h
section
variable {P:Program} {n:Nat} {Q:cI} {E:Env} {H F:List aA}
/-- The end: what is handed over is taken out, the k items beside it are forgotten. -/
theorem bg {fn:Func} {F:List aA} {cI:Value→List aA→Prop} {x:Exit} {l:List Value} {L:List aA} (js:List (Nat × Bool)) (k:Nat) (hp:cI (one l) L) (hx:x=.ret ∨ x=.normal) (hr:u7 E fn.results.toList=some l) (hj:preO js H=some L) (hF:(iL js H).drop k=F) :
    QH (zN P fn (CR F cI)) x E H :=
  Hd hx l hr L hp (fun s ok hs=>⟨s,rfl,ok,by
    have h1:=pn js hs (po hj)
    subst hF
    have h2:(L++(iL js H).drop k).Sublist (L++iL js H):=List.Sublist.append (List.Sublist.refl _) (List.drop_sublist ..)
    refine ⟨fun y hy=>h1.q y (h2.subset hy),fun b hb=>h1.own b ?_,h1.nd.sublist ?_⟩
    · obtain ⟨y,hy,hby⟩:=List.mem_flatMap.1 hb
      exact List.mem_flatMap.2 ⟨y,h2.subset hy,hby⟩
    · exact rM h2⟩)

/-- a result: a slot, or the j-th item's block -/
inductive AA where
  | slot
  | blk (j:Nat) (e:TypeId) (t:TypeId)
def xe (P:Program) (E:Env) (H:List aA):List ResultVar→List AA→List Value→Prop
  | [],[],l=>l=[]
  | .tmp t :: r,.slot :: g,v :: l=>E.get t=v∧xe P E H r g l
  | .cell p t :: r,.blk j e _ :: g,v :: l=>(∃ vs agg by_ z,pick H j=some (bA (E.get p) e vs)∧dD P t=some (agg,vs.length,by_,z)∧(agg || Nat.beq vs.length 1)=true∧v=valOf agg vs)∧xe P E H r g l
  | _,_,_=>False
theorem wn {P:Program} {E:Env} {H:List aA} {t e ty:TypeId} {p v:Value} {vs:List Value} {agg:Bool} {by_:Nat} {z:Value} (j:Nat) (hp:pick H j=some (bA p e vs)) (hE:E.get t=p) (ht:dD P ty=some (agg,vs.length,by_,z)) (h1:(agg || Nat.beq vs.length 1)=true) (hv:v=valOf agg vs) :
    ∃ vs agg by_ z,pick H j=some (bA (E.get t) e vs)∧dD P ty=some (agg,vs.length,by_,z)∧(agg || Nat.beq vs.length 1)=true∧v=valOf agg vs:=⟨vs,agg,by_,z,by rw [hE];exact hp,ht,h1,hv⟩
theorem sT {P:Program} {n:Nat} {E:Env} {a:Act} (ag:Ag n E a) {H:List aA} {s:St} (hs:Holds s H):∀ (rs:List ResultVar) (gs:List AA) (l:List Value),xe P E H rs gs l →
    (rs.mapM (m:=Sem) fun | .tmp t=>pure (a.tmps.getD t undef) | .cell p t=>do loadVar t (← asAddr (a.tmps.getD p undef))).run P s.w=.ok l s.w
  | [],[],l,h=>by simp only [xe] at h;subst h;rfl
  | .tmp t :: r,.slot :: g,v :: l,h=>by
    obtain ⟨rfl,h⟩:=h
    have ih:=sT ag hs r g l h
    simp only [List.mapM_cons,Sem.run_bind,Sem.run_pure,Result.andThen_ok]
    rw [ih,ag.get]
    simp
  | .cell p t :: r,.blk j e _ :: g,v :: l,h=>by
    obtain ⟨⟨vs,agg,by_,z,hj,ht,h1,rfl⟩,h⟩:=h
    have ih:=sT ag hs r g l h
    obtain ⟨b,hb0,hb⟩:=hs.q _ (ct hj)
    have wK:=uv (P:=P) ht (w:=s.w) (a:=⟨b,0,none⟩) (cs:=vs) rfl (fun e=>by subst e;simpa using h1) (fun j u hu=>by rw [mn,Nat.zero_add];simpa [World.cell?,hb] using hu)
    have hld':(loadVar t ⟨b,0,none⟩).run P s.w=.ok (valOf agg vs) s.w:=by simpa [Instr.loadAt,Instr.sureAddr] using wK
    simp only [List.mapM_cons,Sem.run_bind,Sem.run_pure]
    rw [show a.tmps.getD p undef=.pointer (some ⟨b,0,none⟩) from (ag.get p).trans hb0,show asAddr (.pointer (some ⟨b,0,none⟩))=pure ⟨b,0,none⟩ from rfl]
    simp only [Sem.run_pure,Result.andThen_ok]
    rw [hld']
    simp only [Result.andThen_ok]
    rw [ih]
    simp
  | [],_ :: _,_,h=>h.elim
  | .tmp _ :: _,[],_,h=>h.elim
  | .cell .. :: _,[],_,h=>h.elim
  | .tmp _ :: _,.slot :: _,[],h=>h.elim
  | .cell .. :: _,.blk .. :: _,[],h=>h.elim
  | .tmp _ :: _,.blk .. :: _,_,h=>h.elim
  | .cell .. :: _,.slot :: _,_,h=>h.elim
theorem us {fn:Func} {F:List aA} {cI:Value→List aA→Prop} {x:Exit} {l:List Value} {L:List aA} (gs:List AA) (js:List (Nat × Bool)) (k:Nat) (hp:cI (one l) L) (hx:x=.ret ∨ x=.normal) (hr:xe P E H fn.results.toList gs l) (hj:preO js H=some L) (hF:(iL js H).drop k=F) :
    QH (zN P fn (CR F cI)) x E H:=fun s ok hs=>by
  have h1:=pn js hs (po hj)
  subst hF
  have h2:(L++(iL js H).drop k).Sublist (L++iL js H):=List.Sublist.append (List.Sublist.refl _) (List.drop_sublist ..)
  have h3:Holds s (L++(iL js H).drop k):=⟨fun y hy=>h1.q y (h2.subset hy),fun b hb=>h1.own b (by
    obtain ⟨y,hy,hby⟩:=List.mem_flatMap.1 hb
    exact List.mem_flatMap.2 ⟨y,h2.subset hy,hby⟩),h1.nd.sublist (rM h2)⟩
  refine ⟨E,s,fun _=>rfl,rfl,?_⟩
  have main:∀ a,Ag fn.ntmps E a→∃ v,(results fn a.tmps).run P s.w=.ok v s.w∧CR ((iL js H).drop k) cI (.returned v) s.w:=fun a ag=>by
    refine ⟨one l,?_,one l,L,s,rfl,rfl,ok,hp,h3⟩
    have:=sT (P:=P) ag hs _ _ _ hr
    have e:(fn.results.mapM (m:=Sem) fun | .tmp t=>pure (a.tmps.getD t undef) | .cell p t=>do loadVar t (← asAddr (a.tmps.getD p undef))).run P s.w=.ok l.toArray s.w:=by
      rw [Array.mapM_eq_mapM_toList,Sem.run_map,this];rfl
    have e2:(results fn a.tmps).run P s.w=((fn.results.mapM (m:=Sem) fun | .tmp t=>pure (a.tmps.getD t undef) | .cell p t=>do loadVar t (← asAddr (a.tmps.getD p undef))).run P s.w).andThen
        (fun vs w=>(pure (if h:vs.size=1 then vs[0] else .tuple vs):Sem Value).run P w):=Sem.run_bind ..
    rw [e2,e]
    simp only [Result.andThen_ok,Sem.run_pure]
    congr 1
    match l with
    | []=>rfl
    | [v]=>rfl
    | v :: u :: r=>simp [one]
  rcases hx with rfl | rfl <;> exact main
/- ---- joins -/
def Bz {X:Type} (EE:X→List (Nat × Value)) (HH:X→List aA) (C:X→Prop) (Q:cI):cI
  | .normal,E,s=>∃ x,C x∧agree (EE x) E∧s.Ok∧Holds s (HH x)
  | e,E,s=>Q e E s
theorem de {X:Type} {c:Code} (EE:X→List (Nat × Value)) (HH:X→List aA) (C:X→Prop) (h1:WH P n c (Bz EE HH C Q) E H) (h2:∀ x,C x→∀ j,QH Q .normal ⟨EE x,j⟩ (HH x)):WH P n c Q E H:=fun s ok hs a ag =>
  wp_mono (h1 s ok hs a ag) fun e a' w' hq=>by
    obtain ⟨E',s',ag',rfl,hq⟩:=hq
    cases e with
    | normal =>
      obtain ⟨x,hc,hag,ok',hs'⟩:=hq
      exact (h2 x hc E'.get).qa ok' hs' (ag'.trim hag)
    | _=>exact ⟨E',s',ag',rfl,hq⟩
theorem bD {X:Type} {EE:X→List (Nat × Value)} {HH:X→List aA} {C:X→Prop} (x:X) (hc:C x) (hE:agree (EE x) E) (hH:ka H (HH x)):QH (Bz EE HH C Q) .normal E H:=fun s ok hs=>by
  obtain ⟨s',ew,ok',hs'⟩:=hH s ok hs
  exact ⟨E,s',fun _=>rfl,ew,x,hc,hE,ok',hs'⟩
theorem E5 {X:Type} {EE:X→List (Nat × Value)} {HH:X→List aA} {C:X→Prop} (h:QH Q .ret E H):QH (Bz EE HH C Q) .ret E H:=h
/- ---- loops -/
def Ip {S R:Type} (step:S→Option (Out S R)) (k:Nat) (r:R):Out S R→Prop
  | .go s'=>sP step k s'=some r
  | .fin r'=>r'=r
theorem BF {S R:Type} {step:S→Option (Out S R)} {k:Nat} {s:S} {r:R} (h:sP step k s=some r):∃ k' o,k=k'+1∧step s=some o∧Ip step k' r o:=by
  cases k with
  | zero=>cases h
  | succ k =>
    simp only [sP] at h
    split at h
    · cases h
    · rename_i s' hs;exact ⟨k,_,rfl,hs,h⟩
    · rename_i r' hs;exact ⟨k,_,rfl,hs,Option.some.inj h⟩
def HS {S R G:Type} (step:S→Option (Out S R)) (r:R) (EE:S→G→List (Nat × Value)) (HH:S→G→List aA) (k:Nat) (Q:cI):cI
  | .normal,E,s=>∃ s' g',sP step k s'=some r∧agree (EE s' g') E∧s.Ok∧Holds s (HH s' g')
  | e,E,s=>Q e E s
theorem JY {S R G:Type} {c:Code} {step:S→Option (Out S R)} {r:R} {N:Nat} {s0:S} (EE:S→G→List (Nat × Value)) (HH:S→G→List aA) (g0:G) (hl:sP step N s0=some r) (hE:agree (EE s0 g0) E) (hH:ka H (HH s0 g0))
    (round:∀ k s g o,step s=some o→Ip step k r o→∀ j,WH P n c (HS step r EE HH k Q) ⟨EE s g,j⟩ (HH s g)):WH P n (.loop c) Q E H:=by
  refine vX (X:=Nat × S × G) (fun x=>sP step x.1 x.2.1=some r) (fun x=>EE x.2.1 x.2.2) (fun x=>HH x.2.1 x.2.2) (fun x=>x.1) (N,s0,g0) hl hE hH ?_
  rintro ⟨k,s,g⟩ hI j st ok hs a ag
  obtain ⟨k',o,rfl,hst,hn⟩:=BF hI
  refine wp_mono (round k' s g o hst hn j st ok hs a ag) fun e a' w' hq=>?_
  obtain ⟨E',s',ag',rfl,hq⟩:=hq
  cases e with
  | normal =>
    obtain ⟨s1,g1,h1,h2,h3,h4⟩:=hq
    exact ⟨E',s',ag',rfl,(k',s1,g1),h1,Nat.lt_succ_self _,h2,h3,h4⟩
  | _=>exact ⟨E',s',ag',rfl,hq⟩
theorem Kg {S R G:Type} {step:S→Option (Out S R)} {r:R} {EE:S→G→List (Nat × Value)} {HH:S→G→List aA} {k:Nat} {s':S} (g':G) (h:Ip step k r (.go s')) (hE:agree (EE s' g') E) (hH:ka H (HH s' g')):QH (HS step r EE HH k Q) .normal E H:=fun s ok hs=>by
  obtain ⟨s1,ew,ok',hs'⟩:=hH s ok hs
  exact ⟨E,s1,fun _=>rfl,ew,s',g',h,hE,ok',hs'⟩
theorem FX {S R G:Type} {step:S→Option (Out S R)} {r:R} {EE:S→G→List (Nat × Value)} {HH:S→G→List aA} {k:Nat} (h:QH Q .ret E H):QH (HS step r EE HH k Q) .ret E H:=h
theorem qt {S R G:Type} {step:S→Option (Out S R)} {r:R} {EE:S→G→List (Nat × Value)} {HH:S→G→List aA} {k i:Nat} (h:QH Q (.exit i) E H):QH (HS step r EE HH k Q) (.exit i) E H:=h
def IH {S R:Type} (body:Nat→S→Option (Out S R)) (rem k:Nat) (r:Out S R):Out S R→Prop
  | .go s'=>nq body rem (k+1) s'=some r
  | .fin r'=>.fin r'=r
def II {S R G:Type} (body:Nat→S→Option (Out S R)) (r:Out S R) (EE:Nat→S→G→List (Nat × Value)) (HH:Nat→S→G→List aA) (rem k:Nat) (Q:cI):cI
  | .normal,E,s=>∃ s' g',nq body rem (k+1) s'=some r∧agree (EE (k+1) s' g') E∧s.Ok∧Holds s (HH (k+1) s' g')
  | e,E,s=>Q e E s
def IJ (Q:cI):cI
  | .normal,_,_=>False
  | e,E,s=>Q e E s
theorem JZ {S R G:Type} {c:Code} {body:Nat→S→Option (Out S R)} {r:Out S R} {N k0:Nat} {s0:S} (EE:Nat→S→G→List (Nat × Value)) (HH:Nat→S→G→List aA) (g0:G) (hl:nq body (N - k0) k0 s0=some r) (hN:k0≤N) (hE:agree (EE k0 s0 g0) E) (hH:ka H (HH k0 s0 g0))
    (last:∀ s g,r=.go s→∀ j,WH P n c (IJ Q) ⟨EE N s g,j⟩ (HH N s g))
    (round:∀ rem k s g o,k0≤k∧k < N→body k s=some o→IH body rem k r o→∀ j,WH P n c (II body r EE HH rem k Q) ⟨EE k s g,j⟩ (HH k s g)):WH P n (.loop c) Q E H:=by
  refine vX (X:=Nat × Nat × S × G) (fun x=>nq body x.1 x.2.1 x.2.2.1=some r∧x.1+x.2.1=N∧k0≤x.2.1) (fun x=>EE x.2.1 x.2.2.1 x.2.2.2) (fun x=>HH x.2.1 x.2.2.1 x.2.2.2) (fun x=>x.1) (N - k0,k0,s0,g0) ⟨hl,by simp only;omega,Nat.le_refl _⟩ hE hH ?_
  rintro ⟨rem,k,s,g⟩ ⟨hI,hk,hk0⟩ j st ok hs a ag
  simp only at hI hk hk0
  cases rem with
  | zero =>
    have e:k=N:=by omega
    subst e
    refine wp_mono (last s g (Option.some.inj hI).symm j st ok hs a ag) fun e a' w' hq=>?_
    obtain ⟨E',s',ag',rfl,hq⟩:=hq
    cases e with
    | normal=>exact hq.elim
    | _=>exact ⟨E',s',ag',rfl,hq⟩
  | succ rem =>
    simp only [nq] at hI
    have hb:∃ o,body k s=some o∧IH body rem k r o:=by
      split at hI
      · cases hI
      · rename_i s' h;exact ⟨_,h,hI⟩
      · rename_i r' h;exact ⟨_,h,Option.some.inj hI⟩
    obtain ⟨o,ho,hn⟩:=hb
    refine wp_mono (round rem k s g o ⟨hk0,by omega⟩ ho hn j st ok hs a ag) fun e a' w' hq=>?_
    obtain ⟨E',s',ag',rfl,hq⟩:=hq
    cases e with
    | normal =>
      obtain ⟨s1,g1,h1,h2,h3,h4⟩:=hq
      exact ⟨E',s',ag',rfl,(rem,k+1,s1,g1),⟨h1,by simp only;omega,by simp only;omega⟩,Nat.lt_succ_self _,h2,h3,h4⟩
    | _=>exact ⟨E',s',ag',rfl,hq⟩
theorem IE {S R G:Type} {body:Nat→S→Option (Out S R)} {r:Out S R} {EE:Nat→S→G→List (Nat × Value)} {HH:Nat→S→G→List aA} {rem k:Nat} {s':S} (g':G) (h:IH body rem k r (.go s')) (hE:agree (EE (k+1) s' g') E) (hH:ka H (HH (k+1) s' g')) :
    QH (II body r EE HH rem k Q) .normal E H:=fun s ok hs=>by
  obtain ⟨s1,ew,ok',hs'⟩:=hH s ok hs
  exact ⟨E,s1,fun _=>rfl,ew,s',g',h,hE,ok',hs'⟩
theorem fF {S R G:Type} {body:Nat→S→Option (Out S R)} {r:Out S R} {EE:Nat→S→G→List (Nat × Value)} {HH:Nat→S→G→List aA} {rem k:Nat} (h:QH Q .ret E H):QH (II body r EE HH rem k Q) .ret E H:=h
theorem bb {i:Nat} (h:QH Q (.exit i) E H):QH (IJ Q) (.exit i) E H:=h
theorem iW {k k0 N:Nat} (h:k0≤k∧k < N):decide ((k:Int) < (N:Int))=true:=decide_eq_true (by omega)
theorem i6 {N:Nat}:decide ((N:Int) < (N:Int))=false:=decide_eq_false (by omega)
/-- a range that never ends early -/
def JB {S G:Type} (body:Nat→S→Option S) (r:S) (EE:Nat→S→G→List (Nat × Value)) (HH:Nat→S→G→List aA) (rem k:Nat) (Q:cI):cI
  | .normal,E,s=>∃ s' g',dU body rem (k+1) s'=some r∧agree (EE (k+1) s' g') E∧s.Ok∧Holds s (HH (k+1) s' g')
  | e,E,s=>Q e E s
theorem uP {S G:Type} {c:Code} {body:Nat→S→Option S} {r:S} {N k0:Nat} {s0:S} (EE:Nat→S→G→List (Nat × Value)) (HH:Nat→S→G→List aA) (g0:G) (hl:dU body (N - k0) k0 s0=some r) (hN:k0≤N) (hE:agree (EE k0 s0 g0) E) (hH:ka H (HH k0 s0 g0))
    (last:∀ g j,WH P n c (IJ Q) ⟨EE N r g,j⟩ (HH N r g))
    (round:∀ rem k s g s',k0≤k∧k < N→body k s=some s'→dU body rem (k+1) s'=some r→∀ j,WH P n c (JB body r EE HH rem k Q) ⟨EE k s g,j⟩ (HH k s g)):WH P n (.loop c) Q E H:=by
  refine vX (X:=Nat × Nat × S × G) (fun x=>dU body x.1 x.2.1 x.2.2.1=some r∧x.1+x.2.1=N∧k0≤x.2.1) (fun x=>EE x.2.1 x.2.2.1 x.2.2.2) (fun x=>HH x.2.1 x.2.2.1 x.2.2.2) (fun x=>x.1) (N - k0,k0,s0,g0) ⟨hl,by simp only;omega,Nat.le_refl _⟩ hE hH ?_
  rintro ⟨rem,k,s,g⟩ ⟨hI,hk,hk0⟩ j st ok hs a ag
  simp only at hI hk hk0
  cases rem with
  | zero =>
    have e:k=N:=by omega
    subst e
    cases hI
    refine wp_mono (last g j st ok hs a ag) fun e a' w' hq=>?_
    obtain ⟨E',s',ag',rfl,hq⟩:=hq
    cases e with
    | normal=>exact hq.elim
    | _=>exact ⟨E',s',ag',rfl,hq⟩
  | succ rem =>
    simp only [dU] at hI
    split at hI
    · cases hI
    · rename_i s' hb
      refine wp_mono (round rem k s g s' ⟨hk0,by omega⟩ hb hI j st ok hs a ag) fun e a' w' hq=>?_
      obtain ⟨E',s1,ag',rfl,hq⟩:=hq
      cases e with
      | normal =>
        obtain ⟨s2,g1,h1,h2,h3,h4⟩:=hq
        exact ⟨E',s1,ag',rfl,(rem,k+1,s2,g1),⟨h1,by simp only;omega,by simp only;omega⟩,Nat.lt_succ_self _,h2,h3,h4⟩
      | _=>exact ⟨E',s1,ag',rfl,hq⟩
theorem Kh {S G:Type} {body:Nat→S→Option S} {r:S} {EE:Nat→S→G→List (Nat × Value)} {HH:Nat→S→G→List aA} {rem k:Nat} {s':S} (g':G) (h:dU body rem (k+1) s'=some r) (hE:agree (EE (k+1) s' g') E) (hH:ka H (HH (k+1) s' g')) :
    QH (JB body r EE HH rem k Q) .normal E H:=fun s ok hs=>by
  obtain ⟨s1,ew,ok',hs'⟩:=hH s ok hs
  exact ⟨E,s1,fun _=>rfl,ew,s',g',h,hE,ok',hs'⟩
theorem kP {k k0:Nat} {z:Int} (h:k0≤k∧k < max k0 z.toNat):decide ((k:Int) < z)=true:=decide_eq_true (by omega)
theorem kO {k0:Nat} {z:Int}:decide (((max k0 z.toNat:Nat):Int) < z)=false:=decide_eq_false (by omega)
theorem IG {k k0:Nat} {z:Int} (h:k0≤k∧k < max k0 (z+1).toNat):decide ((k:Int)≤z)=true:=decide_eq_true (by omega)
theorem IF {k0:Nat} {z:Int}:decide (((max k0 (z+1).toNat:Nat):Int)≤z)=false:=decide_eq_false (by omega)
/-- heap to heap: what is wanted is taken out, k items beside it are forgotten -/
theorem KL {js:List (Nat × Bool)} {k:Nat} {L:List aA} (hj:preO js H=some L) (hF:(iL js H).drop k=F):ka H (L++F):=fun s ok hs=>⟨s,rfl,ok,by
    have h1:=pn js hs (po hj)
    subst hF
    have h2:(L++(iL js H).drop k).Sublist (L++iL js H):=List.Sublist.append (List.Sublist.refl _) (List.drop_sublist ..)
    refine ⟨fun y hy=>h1.q y (h2.subset hy),fun b hb=>h1.own b ?_,h1.nd.sublist ?_⟩
    · obtain ⟨y,hy,hby⟩:=List.mem_flatMap.1 hb
      exact List.mem_flatMap.2 ⟨y,h2.subset hy,hby⟩
    · exact rM h2⟩
theorem Kj {js:List (Nat × Bool)} {k:Nat} {L B:List aA} (hj:preO js H=some (L++B)) (hF:(iL js H).drop k=F):ka H (L++(B++F)):=by
  rw [← List.append_assoc];exact KL hj hF
theorem Gc {l:List (Nat × Value)} (h:(l.map (·.1)).map E.get=l.map (·.2)):agree l E:=vp h
/-- a slot's value, spelt anew -/
theorem Kl {ops:qR} {i t:Nat} {b c:Bool} (hb:b=c) (h:E.get t=.bool b) (g:WI P n ops i Q (E.put t (.bool c)) H):WI P n ops i Q E H:=fun s ok hs act ag=>by
  refine g s ok hs act (ag.same fun u=>?_)
  rw [Env.get_put]
  split
  · rename_i hu;subst hu;rw [h,hb]
  · rfl
def KQ (T:sv) (E:Env) (o:Oper):Option Value:=sS T E o
/-- An operation that only computes, its value spelt anew. -/
theorem uG {T:sv} {ops:qR} {i:Nat} (hT:T.ok P=true) {v v':Value} (e:v=v') (h:dec n ops E i (KQ T)=some v) (g:WI P n ops (i+1) Q (E.putO (fk ops i) v') H):WI P n ops i Q E H:=by
  subst e
  exact qC h (fun o ho s _ _=>pu hT ho s.w) g
def JP (P:Program) (n:Nat) (ops:qR) (E:Env) (i:Nat) (w:World):Option (Result Next):=dec n ops E i (fun E o=>some ((execOp E.ev o).run P w))
/-- An operation that the kernel runs by itself, in whatever world. -/
theorem bF {ops:qR} {i:Nat} {v:Value} (h:∀ w,JP P n ops E i w=some (.ok (.value v) w)) (g:WI P n ops (i+1) Q (E.putO (fk ops i) v) H):WI P n ops i Q E H:=by
  obtain ⟨o,h1,h2,h3,h4,h5⟩:=qe (h default)
  rw [h5] at g
  refine vZ (X:=Unit) (C:=fun _=>True) (V:=fun _=>v) (H':=fun _=>H) h1 h2 h3 (fun s ok hs=>⟨(),s,?_,trivial,ok,hs⟩) (fun _ _=>g)
  obtain ⟨o',h1',_,_,h4',_⟩:=qe (h s.w)
  rw [h1] at h1'
  cases h1'
  exact Option.some.inj h4'
def JU (E:Env) (o:Oper):Option (Bool × Value × Value) :=
  match o.op with
  | .call c=>match c.callee,c.args.toList with
    | .builtin .max,[x,y]=>some (true,E.ev x,E.ev y)
    | .builtin .min,[x,y]=>some (false,E.ev x,E.ev y)
    | _,_=>none
  | _=>none
theorem C9 {o:Oper} {m:Bool} {k:IntKind} {x y z:Int} {w:World} (h:JU E o=some (m,.int k x,.int k y)) (hz:z=(match m with | true=>if y > x then y else x | false=>if y < x then y else x)):(execOp E.ev o).run P w=.ok (.value (.int k z)) w:=by
  unfold JU at h
  split at h
  · rename_i c hop
    split at h
    · rename_i x' y' hc ha
      simp only [Option.some.injEq,Prod.mk.injEq] at h
      obtain ⟨rfl,hx,hy⟩:=h
      obtain ⟨callee,args,argTypes⟩:=c
      simp only at hc ha
      have ha':args=#[x',y']:=by rw [← Array.toArray_toList (xs:=args),ha]
      subst ha';subst hc;subst hz
      unfold execOp
      rw [hop]
      simp [resolve,invoke,builtin,hx,hy,Builtin.max_,Builtin.max2]
    · rename_i x' y' hc ha
      simp only [Option.some.injEq,Prod.mk.injEq] at h
      obtain ⟨rfl,hx,hy⟩:=h
      obtain ⟨callee,args,argTypes⟩:=c
      simp only at hc ha
      have ha':args=#[x',y']:=by rw [← Array.toArray_toList (xs:=args),ha]
      subst ha';subst hc;subst hz
      unfold execOp
      rw [hop]
      simp [resolve,invoke,builtin,hx,hy,Builtin.min_,Builtin.min2]
    · cases h
  · cases h
theorem HD {ops:qR} {i:Nat} {x y z:Int} (hz:some (min x y)=some z) (h:dec n ops E i JU=some (false,.int .i64 x,.int .i64 y)) (g:WI P n ops (i+1) Q (E.putO (fk ops i) (.int .i64 z)) H):WI P n ops i Q E H :=
  qC h (fun o ho s _ _=>C9 ho (by cases hz;simp only;omega)) g
/-- an element of an array of numbers -/
def IU (P:Program) (t:TypeId):Option (Nat × TypeId):=match P.underlying t with | some (.array n e)=>some (n,e) | _=>none
def Ic (E:Env) (o:Oper):Option (TypeId × Value × Value):=match o.op with | .index t x y=>some (t,E.ev x,E.ev y) | _=>none
theorem Ja {ops:qR} {i:Nat} {t e:TypeId} {by_ m:Nat} {z:Value} {k:IntKind} {xs:List Int} {x:Int} (hx:xs[m]?=some x) (h:dec n ops E i Ic=some (t,.agg (xs.map (Value.int .i64)).toArray,.int k (m:Int))) (ht:IU P t=some (xs.length,e)) (he:dD P e=some (false,1,by_,z))
    (g:WI P n ops (i+1) Q (E.putO (fk ops i) (.int .i64 x)) H):WI P n ops i Q E H :=
  qC h (fun o ho s _ _=>by
    unfold Ic at ho
    split at ho
    · rename_i t' a b hop
      simp only [Option.some.injEq,Prod.mk.injEq] at ho
      obtain ⟨rfl,ha,hb⟩:=ho
      obtain ⟨ii,d,hi,hd,hagg,hsz,_,_⟩:=je he
      have hu:P.underlying t'=some (.array xs.length e):=by
        unfold IU at ht
        split at ht
        · rename_i n' e' hu;cases ht;exact hu
        · cases ht
      have hlt:=(List.getElem?_eq_some_iff.1 hx).1
      have hs:(Go.sizeOf e).run P s.w=.ok 1 s.w:=by simp [Go.sizeOf,typeInfo,hi,hsz]
      have hag:(isAgg e).run P s.w=.ok false s.w:=by rw [vc hd,hagg]
      unfold execOp
      rw [hop]
      refine dJ ?_
      rw [ha,hb]
      have hc:((xs.map (Value.int .i64)).toArray)[m]?=some (.int .i64 x):=by simp [hx]
      have hi2:(0:Int)≤(m:Int)∧((m:Nat):Int) < ((xs.length:Nat):Int):=by omega
      simp [Instr.index,asIntOf,run_underlying hu,hs,part,hag,hlt]
      exact (List.getElem?_eq_some_iff.1 hx).2
    · cases ho) g
/-- a slice beside nil -/
def KH (E:Env) (o:Oper):Option (Bool × TypeId × Value) :=
  match o.op with
  | .binOp .eql t x y _=>match E.ev y with | .slice none _ _=>some (true,t,E.ev x) | _=>none
  | .binOp .neq t x y _=>match E.ev y with | .slice none _ _=>some (false,t,E.ev x) | _=>none
  | _=>none
theorem vb {t e:TypeId} (ht:pW P t=some e) (A:Option Addr) (N c a b:Nat) (w:World):(Op.equal t (.slice A N c) (.slice none a b)).run P w=.ok A.isNone w:=by
  have hu:=kK ht
  have e:Op.equal t (.slice A N c) (.slice none a b)=Op.equalIn (Nat.pred Op.maxDepth+1) t (.slice A N c) (.slice none a b):=rfl
  rw [e,Op.equalIn]
  cases A <;> simp [run_underlying hu]
theorem Jd {α:Type} {kd:Kd α} {ops:qR} {i:Nat} {t e:TypeId} {v:Value} {xs:List α} {b:Bool} (j:Nat) (hp:pick H j=some (ry kd v xs)) (h:dec n ops E i KH=some (b,t,v)) (ht:pW P t=some e)
    (g1:(∃ c,v=.slice none 0 c)→xs=[]→WI P n ops (i+1) Q (E.putO (fk ops i) (.bool b)) H) (g2:WI P n ops (i+1) Q (E.putO (fk ops i) (.bool !b)) H):WI P n ops i Q E H:=fun s ok hs=>by
  obtain ⟨A,c,rfl,_,_,_,hq⟩:=hs.q _ (ct hp)
  have key:WI P n ops (i+1) Q (E.putO (fk ops i) (.bool (if A.isNone then b else !b))) H:=by
    cases A with
    | none =>
      have hx:xs=[]:=by
        rcases hq with h | ⟨_,_,_,_,_,_,h,_⟩
        · exact h
        · cases h
      subst hx
      exact g1 ⟨c,rfl⟩ rfl
    | some a=>exact g2
  refine qC h (fun o ho s _ _=>?_) key s ok hs
  unfold KH at ho
  split at ho
  · rename_i t' x y yt hop
    split at ho
    · rename_i hy
      simp only [Option.some.injEq,Prod.mk.injEq] at ho
      obtain ⟨rfl,rfl,hx⟩:=ho
      unfold execOp
      rw [hop]
      refine dJ ?_
      simp only [hx,hy]
      cases A <;> simp [eqGuard,Go.binOp,vb ht]
    · cases ho
  · rename_i t' x y yt hop
    split at ho
    · rename_i hy
      simp only [Option.some.injEq,Prod.mk.injEq] at ho
      obtain ⟨rfl,rfl,hx⟩:=ho
      unfold execOp
      rw [hop]
      refine dJ ?_
      simp only [hx,hy]
      cases A <;> simp [eqGuard,Go.binOp,vb ht]
    · cases ho
  · cases ho
theorem WI.hd {ops:qR} {i:Nat} {x y:aA} (e:x=y) (g:WI P n ops i Q E (y :: H)):WI P n ops i Q E (x :: H):=e ▸ g
/-- an item is frozen in its place -/
theorem ca {α:Type} {kd:Kd α} {e:TypeId} {v:Value} {xs:List α} {H:List aA} (j:Nat) (hp:pick H j=some (cj kd e v xs)):ka H (ry kd v xs :: da H j):=fun s ok hs=>ka.frz s ok (Holds.out hs hp)
theorem cC {v:Value} {N:Nat} (h:tx H v N):∀ s,Holds s H→v.oneCell'=true:=fun s hs=>by
  obtain ⟨A,c,hv,_⟩:=h s hs
  rw [hv];rfl
theorem oN:∀ s,Holds s H→∀ u ∈ ([]:List Value),u.oneCell'=true:=fun _ _ _ h=>nomatch h
theorem oC {c:Value} {cs:List Value} (h:∀ s,Holds s H→c.oneCell'=true) (t:∀ s,Holds s H→∀ u ∈ cs,u.oneCell'=true):∀ s,Holds s H→∀ u ∈ c :: cs,u.oneCell'=true:=fun s hs u hu=>by
  rcases List.mem_cons.1 hu with rfl | hu
  · exact h s hs
  · exact t s hs u hu
theorem fe {α:Type} {kd:Kd α}:∀ s,Holds s H→cJ kd s [] []:=fun _ _=>rfl
theorem db {α:Type} {kd:Kd α} {x:α} {g:kd.G} {xs:List α} {cs:List Value} (hi:∀ s,Holds s H→∀ a ∈ kd.items x g,a.q s) (hr:∀ s,Holds s H→cJ kd s xs cs):∀ s,Holds s H→cJ kd s (x :: xs) (kd.cells x g++cs):=fun s hs =>
  ⟨kd.cells x g,cs,rfl,⟨g,rfl,hi s hs⟩,hr s hs⟩
theorem cO {α:Type} {xs:List α} {k:Nat} {x:α} (h:xs[k]?=some x):k < xs.length:=(List.getElem?_eq_some_iff.1 h).1
theorem J4:JA none 0:=rfl
theorem GZ {k:IntKind} {l:Int}:JA (some (.int k l)) l:=⟨k,rfl⟩
theorem J0 {N:Nat}:J1 none (N:Int) N:=rfl
theorem HQ {k:IntKind} {h:Int} {N:Nat}:J1 (some (.int k h)) h N:=⟨k,rfl⟩
theorem uW {a b c:Nat} (h:some (lS a b)=some c):mC .add .u64 (a:Int) (b:Int)=some (c:Int):=by cases h;exact Je
theorem wB {a b c:Nat} (h:some (uT a b)=some c):mC .sub .u64 (a:Int) (b:Int)=some (c:Int):=by cases h;exact Jh
theorem wz {a b c:Nat} (h:some (tz a b)=some c):mC .mul .u64 (a:Int) (b:Int)=some (c:Int):=by cases h;exact Jg
theorem wy {a b c:Nat} (h:some (ti a b)=some c):mC .and .u64 (a:Int) (b:Int)=some (c:Int):=by cases h;exact Jf
theorem JQ {a b c:Nat} (h:some (Ir a b)=some c):mC .or .u64 (a:Int) (b:Int)=some (c:Int):=by cases h;exact Km
theorem AW {a:Int} {c:Nat} (h:some (qP a)=some c):IntKind.u64.wrap a=(c:Int):=by cases h;exact KZ
theorem bG {k k0 N:Nat} (h:k0≤k∧k < N) (hN:N < 9223372036854775807):mC .add .i64 (k:Int) ((1:Nat):Int)=some ((k+1:Nat):Int):=cS (by unfold fI C0;rw [if_pos (by omega)];rfl)
theorem cq {n:Nat} {u:Unit} (h:pa n=some u):n < 9223372036854775807:=by unfold pa at h;split at h;assumption;cases h
theorem aY {α:Type} {kd:Kd α} {v:Value} {xs:List α} (j:Nat) (hp:pick H j=some (ry kd v xs)):∀ s,Holds s H→xs.length < 9223372036854775807:=fun s hs=>by
  obtain ⟨A,c,_,_,_,h,_⟩:=hs.q _ (ct hp);omega
theorem jc {α:Type} {kd:Kd α} {e:TypeId} {v:Value} {xs:List α} (j:Nat) (hp:pick H j=some (cj kd e v xs)):∀ s,Holds s H→xs.length < 9223372036854775807:=fun s hs=>by
  obtain ⟨A,c,_,_,_,h,_⟩:=hs.q _ (ct hp);omega
theorem aU {cd:Code} {q:Prop} (hq:∀ s,Holds s H→q) (g:q→WH P n cd Q E H):WH P n cd Q E H:=fun s ok hs=>g (hq s hs) s ok hs
theorem ic {α:Type} {a b:α} (h:some a=some b):b=a:=(Option.some.inj h).symm
/-- A test whose outcome is known. -/
theorem eX {c:Operand} {x y:Code} {b:Bool} (hb:b=true) (hc:E.ev c=.bool b) (ht:WH P n x Q E H):WH P n (.cond c x y) Q E H:=zC b hc (fun _=>ht) (fun h=>by rw [hb] at h;cases h)
theorem cY {c:Operand} {x y:Code} {b:Bool} (hb:b=false) (hc:E.ev c=.bool b) (ht:WH P n y Q E H):WH P n (.cond c x y) Q E H:=zC b hc (fun h=>by rw [hb] at h;cases h) (fun _=>ht)
end
end Gw
