/- Own words: numbers, calls, ends, joins and loops, told by the printed plain functions. -/
import Derived.Test.YtpjenmchinpgaaaGreatDoorGw4
set_option linter.unusedVariables false
namespace Gw
open Go Gv

def NS {α:Type} (xs:List α) (i:Int) (x:α):Option (List α):=if 0≤i∧i.toNat < xs.length then some (xs.set i.toNat x) else none
theorem ib {α:Type} {xs:List α} {i:Int} {x:α} (h:gJ xs i=some x):i.toNat < xs.length:=by
  unfold gJ at h;split at h
  · exact (List.getElem?_eq_some_iff.1 h).1
  · cases h
theorem iz {α:Type} {xs:List α} {i:Int} {x:α} (h:gJ xs i=some x):i=(i.toNat:Int):=by
  unfold gJ at h;split at h
  · omega
  · cases h
theorem ig {α:Type} {xs:List α} {i:Int} {x:α} (h:gJ xs i=some x):xs[i.toNat]?=some x:=by
  unfold gJ at h;split at h
  · exact h
  · cases h
theorem sz {α:Type} {xs ys:List α} {i:Int} {x:α} (h:NS xs i x=some ys):i=(i.toNat:Int):=by
  unfold NS at h;split at h
  · omega
  · cases h
/-- the printed functions' steps -/
theorem uU {α β:Type} {x:Option α} {f:α→Option β} {r:β} (h:(x >>= f)=some r):∃ a,x=some a∧f a=some r:=by
  cases x with
  | none=>cases h
  | some a=>exact ⟨a,rfl,h⟩
theorem M4 {α:Type} {c:Bool} {x y:Option α} {r:α} (h:(bif c then x else y)=some r):(c=true∧x=some r) ∨ (c=false∧y=some r):=by
  cases c with
  | true=>exact .inl ⟨rfl,h⟩
  | false=>exact .inr ⟨rfl,h⟩

/- ---- numbers -/
def nC (op:BinOp) (k:IntKind) (m n:Int):Option Int :=
  match op with
  | .add=>some (k.wrap (m+n))
  | .sub=>some (k.wrap (m - n))
  | .mul=>some (k.wrap (m*n))
  | .quo=>if n=0 then none else some (k.wrap (m.tdiv n))
  | .rem=>if n=0 then none else some (m.tmod n)
  | .and=>some (k.wrap ((BitVec.ofInt k.bits m) &&& (BitVec.ofInt k.bits n)).toNat)
  | .or=>some (k.wrap ((BitVec.ofInt k.bits m) ||| (BitVec.ofInt k.bits n)).toNat)
  | .xor=>some (k.wrap ((BitVec.ofInt k.bits m) ^^^ (BitVec.ofInt k.bits n)).toNat)
  | _=>none
theorem wrap_u64 (a:Nat):IntKind.u64.wrap (a:Int)=((a % 18446744073709551616:Nat):Int):=by
  simp [IntKind.wrap,IntKind.bits,IntKind.signed]
theorem y4 (z:Int):IntKind.u64.wrap z=((us z:Nat):Int):=by
  simp [IntKind.wrap,IntKind.bits,IntKind.signed,us];omega
theorem uY (a:Nat):(BitVec.ofInt 64 (a:Int)).toNat=a % 18446744073709551616:=by
  simp
theorem N6 {a b:Nat}:nC .add .u64 (a:Int) (b:Int)=some ((nB a b:Nat):Int):=by
  simp only [nC,nB];rw [← Int.natCast_add,wrap_u64]
theorem N8 {a b:Nat}:nC .mul .u64 (a:Int) (b:Int)=some ((wU a b:Nat):Int):=by
  simp only [nC,wU];rw [← Int.natCast_mul,wrap_u64]
theorem Oa {a b:Nat}:nC .sub .u64 (a:Int) (b:Int)=some ((yy a b:Nat):Int):=by
  simp only [nC,yy];rw [y4];rfl
theorem N7 {a b:Nat}:nC .and .u64 (a:Int) (b:Int)=some ((wI a b:Nat):Int):=by
  show some (IntKind.u64.wrap (((BitVec.ofInt 64 (a:Int) &&& BitVec.ofInt 64 (b:Int):BitVec 64).toNat:Nat):Int))=_
  rw [wrap_u64,BitVec.toNat_and,uY,uY,Nat.mod_eq_of_lt (Nat.lt_of_le_of_lt Nat.and_le_left (Nat.mod_lt _ (by decide)))];rfl
theorem PH {a b:Nat}:nC .or .u64 (a:Int) (b:Int)=some ((Nw a b:Nat):Int):=by
  show some (IntKind.u64.wrap (((BitVec.ofInt 64 (a:Int) ||| BitVec.ofInt 64 (b:Int):BitVec 64).toNat:Nat):Int))=_
  rw [wrap_u64,BitVec.toNat_or,uY,uY,Nat.mod_eq_of_lt (Nat.or_lt_two_pow (n:=64) (Nat.mod_lt _ (by decide)) (Nat.mod_lt _ (by decide)))];rfl
theorem pe {z c:Int} (h:Hy z=some c):c=z ∧ -9223372036854775808≤z∧z < 9223372036854775808:=by
  unfold Hy at h;split at h
  · cases h;exact ⟨rfl,by assumption⟩
  · cases h
theorem xq {z c:Int} (h:Hy z=some c):IntKind.i64.wrap z=c:=by
  obtain ⟨rfl,h1,h2⟩:=pe h
  rw [IntKind.wrap_i64];omega
theorem cD {a b c:Int} (h:dZ a b=some c):nC .add .i64 a b=some c:=by simp only [nC];rw [xq h]
theorem fb {a b c:Int} (h:iQ a b=some c):nC .sub .i64 a b=some c:=by simp only [nC];rw [xq h]
theorem gQ {a b c:Int} (h:jy a b=some c):nC .mul .i64 a b=some c:=by simp only [nC];rw [xq h]
theorem y5 {a b c:Int} (h:wR a b=some c):nC .quo .i64 a b=some c:=by
  unfold wR at h;split at h
  · cases h
  · simp only [nC];rw [if_neg (by assumption),xq h]
theorem N9 {a b c:Int} (h:GL a b=some c):nC .rem .i64 a b=some c:=by
  unfold GL at h;split at h
  · cases h
  · cases h;simp only [nC];rw [if_neg (by assumption)]
section
variable {P:Program} {n:Nat} {Q:cM} {E:Env} {H F:List aF} {ops:sO} {i:Nat}
def OB (E:Env) (o:Oper):Option (BinOp × IntKind × IntKind × Int × Int) :=
  match o.op with
  | .binOp op _ x y _=>match E.ev x,E.ev y with
    | .int k a,.int k' b=>some (op,k,k',a,b)
    | _,_=>none
  | _=>none
theorem AV {o:Oper} {op:BinOp} {k k':IntKind} {a b:Int} (h:OB E o=some (op,k,k',a,b)):∃ t yt x y,o.op=.binOp op t x y yt∧E.ev x=.int k a∧E.ev y=.int k' b:=by
  unfold OB at h
  split at h
  · rename_i op' t x y yt hop
    split at h
    · rename_i hx hy;cases h;exact ⟨t,yt,x,y,hop,hx,hy⟩
    · cases h
  · cases h
theorem aB {op:BinOp} {k:IntKind} {a b z:Int} (hz:nC op k a b=some z) (h:dec n ops E i OB=some (op,k,k,a,b)) (g:WI P n ops (i+1) Q (E.putO (eM ops i) (.int k z)) H):WI P n ops i Q E H :=
  qx h (fun o ho s _ _=>by
    obtain ⟨t,yt,x,y,hop,hx,hy⟩:=AV ho
    unfold execOp
    rw [hop]
    simp only []
    rw [hx,hy]
    cases op <;> simp only [nC] at hz <;> try (cases hz;done)
    case quo =>
      split at hz
      · cases hz
      · rename_i h0;cases hz;simp [eqGuard,Go.binOp,Op.intDiv,h0]
    case rem =>
      split at hz
      · cases hz
      · rename_i h0;cases hz;simp [eqGuard,Go.binOp,Op.intDiv,h0]
    all_goals (cases hz;simp [eqGuard,Go.binOp,Op.intArith,Op.intBits])) g
theorem wY {op:BinOp} {k yk:IntKind} {a b z:Int} (hop:op=.shl ∨ op=.shr) (hz:(Op.shift op k a yk b)=pure (.int k z)) (h:dec n ops E i OB=some (op,k,yk,a,b)) (g:WI P n ops (i+1) Q (E.putO (eM ops i) (.int k z)) H):WI P n ops i Q E H :=
  qx h (fun o ho s _ _=>by
    obtain ⟨t,yt,x,y,hop',hx,hy⟩:=AV ho
    unfold execOp
    rw [hop']
    simp only []
    rw [hx,hy]
    rcases hop with e | e <;> (subst e;simp [eqGuard,Go.binOp,hz])) g
theorem Ar {a c:Nat} {b:Int} {yk:IntKind} (h:uS a b=some c):Op.shift .shr .u64 (a:Int) yk b=pure (.int .u64 (c:Int)):=by
  unfold uS at h;split at h
  · cases h
  · rename_i h0
    cases h
    simp only [Op.shift]
    rw [if_neg (by omega)]
    have:((a:Int)).fdiv (2 ^ (min b.toNat 64))=((a / 2 ^ (min b.toNat 64):Nat):Int):=by
      rw [Int.fdiv_eq_ediv_of_nonneg _ (Int.le_of_lt (Int.pow_pos (by decide)))]
      norm_cast
    rw [show min b.toNat IntKind.u64.bits=min b.toNat 64 from rfl,this]
theorem MG {a c:Nat} {b:Int} {yk:IntKind} (h:Cv a b=some c):Op.shift .shl .u64 (a:Int) yk b=pure (.int .u64 (c:Int)):=by
  unfold Cv at h;split at h
  · cases h
  · rename_i h0
    cases h
    simp only [Op.shift]
    rw [if_neg (by omega),show min b.toNat IntKind.u64.bits=min b.toNat 64 from rfl]
    have:(a:Int)*2 ^ (min b.toNat 64)=((a*2 ^ (min b.toNat 64):Nat):Int):=by norm_cast
    rw [this,wrap_u64]
def P1 (T:vA) (E:Env) (o:Oper):Option (IntKind × Int) :=
  match o.op with
  | .convert st t x=>match E.ev x,ED T.ints t,ED T.ints st with
    | .int _ a,some k,some _=>some (k,a)
    | _,_,_=>none
  | _=>none
theorem ut {T:vA} (ht:T.ok P=true) {k:IntKind} {a z:Int} (hz:k.wrap a=z) (h:dec n ops E i (P1 T)=some (k,a)) (g:WI P n ops (i+1) Q (E.putO (eM ops i) (.int k z)) H):WI P n ops i Q E H :=
  qx h (fun o ho s _ _=>by
    subst hz
    unfold P1 at ho
    split at ho
    · rename_i hop
      split at ho
      · rename_i hx hk hs
        cases ho
        exact sn ht (by unfold wi;rw [hop];simp only [hx,hk,hs]) s.w
      · cases ho
    · cases ho) g
theorem Qz {a:Int}:IntKind.u64.wrap a=((us a:Nat):Int):=y4 a
theorem Qy {a:Int}:IntKind.i64.wrap a=J1 a:=by rw [IntKind.wrap_i64];rfl
/- ---- calls -/
/-- A contract, its arguments a list. -/
def Ct (P:Program) (f:FuncId) (l:List Value) (Pre:List aF) (cM:Value→List aF→Prop):Prop:=OK P f l.toArray Pre cM
/-- items are taken out (or copied, if nobody owns anything there) -/
def z3:List (Nat × Bool)→List aF→Option (List aF × List aF)
  | [],H=>some ([],H)
  | (j,cp) :: r,H=>match pick H j with
    | some x=>(match cp with
      | true=>(match D3 x with
        | true=>(match z3 r H with | some (L,R)=>some (x :: L,R) | none=>none)
        | false=>none)
      | false=>(match z3 r (ck H j) with | some (L,R)=>some (x :: L,R) | none=>none))
    | none=>none
theorem C7 {x:aF} (h:D3 x=true):x.bs=[]:=by unfold D3 at h;split at h;assumption;cases h
theorem sf {s:St}:∀ (js:List (Nat × Bool)) {A H L R:List aF},Holds s (A++H)→z3 js H=some (L,R)→Holds s (A++(L++R))
  | [],A,H,L,R,h,e=>by cases e;exact h
  | (j,cp) :: r,A,H,L,R,h,e=>by
    simp only [z3] at e
    split at e
    · rename_i x hx
      split at e
      · split at e
        · rename_i hpr
          split at e
          · rename_i L' R' hr
            cases e
            have h1:=sf r h hr
            have h2:=h1.consPr (C7 hpr) (h.q x (List.mem_append_right _ (cg hx)))
            exact h2.perm (List.perm_middle (l₁:=A) (l₂:=L'++R) (a:=x)).symm
          · cases e
        · cases e
      · split at e
        · rename_i L' R' hr
          cases e
          have h1:Holds s ((A++[x])++ck H j):=by
            rw [List.append_assoc]
            exact h.perm (List.Perm.append_left A (jU H j x hx))
          have h2:=sf r h1 hr
          rw [List.append_assoc] at h2;exact h2
        · cases e
    · cases e
theorem sg {s:St} (js:List (Nat × Bool)) {H L R:List aF} (h:Holds s H) (e:z3 js H=some (L,R)):Holds s (L++R):=sf (A:=[]) js h e
def preO (js:List (Nat × Bool)) (H:List aF):Option (List aF):=match z3 js H with | some (L,_)=>some L | none=>none
def jD (js:List (Nat × Bool)) (H:List aF):List aF:=match z3 js H with | some (_,R)=>R | none=>[]
theorem si {js:List (Nat × Bool)} {H L:List aF} (h:preO js H=some L):z3 js H=some (L,jD js H):=by
  unfold preO at h
  unfold jD
  split at h
  · rename_i L' R hr;cases h;rw [hr]
  · cases h
theorem Gr {js:List (Nat × Bool)} {H L:List aF} (h:preO js H=some L):kj H (L++jD js H):=fun s ok hs=>⟨s,rfl,ok,sg js hs (si h)⟩
def sy (E:Env) (o:Oper):Option (FuncId × List Value) :=
  match o.op with
  | .call c=>match c.callee with
    | .value x=>match E.ev x with
      | .func (.func f) first captured=>some (f,first.toList++c.args.toList.map E.ev++captured.toList)
      | _=>none
    | _=>none
  | _=>none
def bz (P : Program) (f : FuncId) : Bool := match P.funcs[f]? with | some fn => fn.body.isSome && !(fn.name == "runtime.NumGoroutine") | none => false
theorem DU {o:Oper} {f:FuncId} {l:List Value} (h:sy E o=some (f,l)) (hf:bz P f=true) (w:World):(execOp E.ev o).run P w=.ok (.enter f l.toArray) w:=by
  unfold sy at h
  split at h
  · rename_i c hop
    split at h
    · rename_i x hc
      split at h
      · rename_i f' first captured hx
        simp only [Option.some.injEq,Prod.mk.injEq] at h
        obtain ⟨rfl,rfl⟩:=h
        unfold bz at hf
        split at hf
        · rename_i fn hfn
          simp only [Bool.and_eq_true,Bool.not_eq_true'] at hf
          have:=GR (P:=P) (E:=E) (o:=o) hop hc hx hfn (by
            have h1:=hf.1
            cases hb:fn.body with
            | none=>rw [hb] at h1;cases h1
            | some _=>rfl) hf.2 w
          rw [this]
          congr 2
          apply Array.ext'
          simp
        · cases hf
      · cases h
    · cases h
  · cases h
/-- A call by contract. -/
theorem Cz {f:FuncId} {l:List Value} {Pre:List aF} {cM:Value→List aF→Prop} (js:List (Nat × Bool)) (hspec:Ct P f l Pre cM) (hp:preO js H=some Pre) (hf:bz P f=true) (h:dec n ops E i sy=some (f,l))
    (g:∀ v L,cM v L→WI P n ops (i+1) Q (E.putO (eM ops i) v) (L++jD js H)):WI P n ops i Q E H:=by
  obtain ⟨o,h1,h2,h3,h4,h5⟩:=rk h
  rw [h5] at g
  exact Kc h1 h2 h3 (fun w=>DU h4 hf w) hspec (Gr hp) g
/-- A call of a function without a body. -/
def Ko (P:Program) (f:FuncId) (e:Array Value→Sem Value):Prop :=
  ∃ fn, P.funcs[f]? = some fn ∧ (fn.name == "runtime.NumGoroutine") = false ∧ fn.body.isNone = true ∧ Extern.findNext fn = none ∧ Extern.find fn = some e
theorem N0 {f:FuncId} {l:List Value} {v:Value} {e:Array Value→Sem Value} (hf:Ko P f e) (hv:∀ w,(e l.toArray).run P w=.ok v w) (h:dec n ops E i sy=some (f,l)) (g:WI P n ops (i+1) Q (E.putO (eM ops i) v) H):WI P n ops i Q E H :=
  qx h (fun o ho s _ _=>by
    unfold sy at ho
    split at ho
    · rename_i c hop
      split at ho
      · rename_i x hc
        split at ho
        · rename_i f' first captured hx
          simp only [Option.some.injEq,Prod.mk.injEq] at ho
          obtain ⟨rfl,rfl⟩:=ho
          obtain ⟨fn,hfn,hn,hb,hx1,hx2⟩:=hf
          have hn' : ¬ fn.name = "runtime.NumGoroutine" := by simpa using hn
          have ha:(first++(c.args.map E.ev++captured))=(first.toList++c.args.toList.map E.ev++captured.toList).toArray:=by apply Array.ext';simp
          have hb':fn.body=none:=by simpa using hb
          unfold execOp
          rw [hop]
          have hv':=hv s.w
          rw [List.append_assoc] at hv' ha
          simp only [resolve,hc,hx,Deferred.ofValue,invoke,callFunc,Sem.run_bind,Sem.run_pure,Result.andThen_ok,Go.run_program,hfn]
          simp [hn',hb',hx1,hx2,mark,ha,Sem.run,hv']
        · cases ho
      · cases ho
    · cases ho) g
theorem KV {x y a b:Nat} (h1:some (nB x y)=some a) (h2:some (HM x y)=some b) (w:World):(add64Entry [.int .u64 (x:Int),.int .u64 (y:Int),.int .u64 ((0:Nat):Int)].toArray).run P w=.ok (.tuple #[.int .u64 (a:Int),.int .u64 (b:Int)]) w:=by
  cases h1;cases h2
  have:=run_add64 (P:=P) (x:Int) (y:Int) 0 (by omega) (by omega) (by omega) (by omega) w
  simpa [nB,HM] using this
end

theorem u0 {A B:List aF} (h:A.Sublist B):(ee A).Sublist (ee B):=by
  induction h with
  | slnil=>exact List.Sublist.refl _
  | cons a _ ih=>simp only [ee,List.flatMap_cons] at *;exact ih.trans (List.sublist_append_right _ _)
  | cons_cons a _ ih=>simp only [ee,List.flatMap_cons] at *;exact List.Sublist.append (List.Sublist.refl _) ih
/- ---- the function's start and end -/
theorem ap {P:Program} {f:FuncId} {fn:Func} {c:Code} {l:List Value} {Pre:List aF} {cM:Value→List aF→Prop}
    (hf:P.funcs[f]?=some fn) (hb:fn.body=some c) (hn:Nat.ble l.length fn.ntmps=true)
    (h:∀ F,WH P fn.ntmps c (AP P fn (BN F cM)) ⟨sS 0 l,fun _=>undef⟩ (Pre++F)):Ct P f l Pre cM:=DK hf hb hn h
section
variable {P:Program} {n:Nat} {Q:cM} {E:Env} {H F:List aF}
/-- The end: what is handed over is taken out, the k items beside it are forgotten. -/
theorem bB {fn:Func} {F:List aF} {cM:Value→List aF→Prop} {x:Exit} {l:List Value} {L:List aF} (js:List (Nat × Bool)) (k:Nat) (hp:cM (one l) L) (hx:x=.ret ∨ x=.normal) (hr:yR E fn.results.toList=some l) (hj:preO js H=some L) (hF:(jD js H).drop k=F) :
    QH (AP P fn (BN F cM)) x E H :=
  Mb hx l hr L hp (fun s ok hs=>⟨s,rfl,ok,by
    have h1:=sg js hs (si hj)
    subst hF
    have h2:(L++(jD js H).drop k).Sublist (L++jD js H):=List.Sublist.append (List.Sublist.refl _) (List.drop_sublist ..)
    refine ⟨fun y hy=>h1.q y (h2.subset hy),fun b hb=>h1.own b ?_,h1.nd.sublist ?_⟩
    · obtain ⟨y,hy,hby⟩:=List.mem_flatMap.1 hb
      exact List.mem_flatMap.2 ⟨y,h2.subset hy,hby⟩
    · exact u0 h2⟩)

/-- a result: a slot, or the j-th item's block -/
inductive EO where
  | slot
  | blk (j:Nat) (e:TypeId) (t:TypeId)
def Bw (P:Program) (E:Env) (H:List aF):List ResultVar→List EO→List Value→Prop
  | [],[],l=>l=[]
  | .tmp t :: r,.slot :: g,v :: l=>E.get t=v∧Bw P E H r g l
  | .cell p t :: r,.blk j e _ :: g,v :: l=>(∃ vs agg by_ z,pick H j=some (bI (E.get p) e vs)∧dM P t=some (agg,vs.length,by_,z)∧(agg || Nat.beq vs.length 1)=true∧v=valOf agg vs)∧Bw P E H r g l
  | _,_,_=>False
theorem CN {P:Program} {E:Env} {H:List aF} {t e ty:TypeId} {p v:Value} {vs:List Value} {agg:Bool} {by_:Nat} {z:Value} (j:Nat) (hp:pick H j=some (bI p e vs)) (hE:E.get t=p) (ht:dM P ty=some (agg,vs.length,by_,z)) (h1:(agg || Nat.beq vs.length 1)=true) (hv:v=valOf agg vs) :
    ∃ vs agg by_ z,pick H j=some (bI (E.get t) e vs)∧dM P ty=some (agg,vs.length,by_,z)∧(agg || Nat.beq vs.length 1)=true∧v=valOf agg vs:=⟨vs,agg,by_,z,by rw [hE];exact hp,ht,h1,hv⟩
theorem wj {P:Program} {μ:Md} {n:Nat} {E:Env} {a:Act} (ag:Ag μ n E a) {H:List aF} {s:St} (hs:Holds s H):∀ (rs:List ResultVar) (gs:List EO) (l:List Value),Bw P E H rs gs l →
    (rs.mapM (m:=Sem) fun | .tmp t=>pure (a.tmps.getD t undef) | .cell p t=>do loadVar t (← asAddr (a.tmps.getD p undef))).run P s.w=.ok l s.w
  | [],[],l,h=>by simp only [Bw] at h;subst h;rfl
  | .tmp t :: r,.slot :: g,v :: l,h=>by
    obtain ⟨rfl,h⟩:=h
    have ih:=wj ag hs r g l h
    simp only [List.mapM_cons,Sem.run_bind,Sem.run_pure,Result.andThen_ok]
    rw [ih,ag.get]
    simp
  | .cell p t :: r,.blk j e _ :: g,v :: l,h=>by
    obtain ⟨⟨vs,agg,by_,z,hj,ht,h1,rfl⟩,h⟩:=h
    have ih:=wj ag hs r g l h
    obtain ⟨b,hb0,hb⟩:=hs.q _ (cg hj)
    have A5:=xW (P:=P) ht (w:=s.w) (a:=⟨b,0,none⟩) (cs:=vs) rfl (fun e=>by subst e;simpa using h1) (fun j u hu=>by rw [nZ,Nat.zero_add];simpa [World.cell?,hb] using hu)
    have hld':(loadVar t ⟨b,0,none⟩).run P s.w=.ok (valOf agg vs) s.w:=by simpa [Instr.loadAt,Instr.sureAddr] using A5
    simp only [List.mapM_cons,Sem.run_bind,Sem.run_pure]
    rw [show a.tmps.getD p undef=.pointer (some ⟨b,0,none⟩) from (ag.get p).trans hb0,show asAddr (.pointer (some ⟨b,0,none⟩))=pure ⟨b,0,none⟩ from rfl]
    simp only [Sem.run_pure,Result.andThen_ok]
    rw [hld']
    simp only [Result.andThen_ok]
    rw [ih]
    simp
  | [],_ :: _,_,h=>h.elim
  | .tmp _ :: _,[],_,h=>h.elim
  | .cell .. :: _,[],_,h=>h.elim
  | .tmp _ :: _,.slot :: _,[],h=>h.elim
  | .cell .. :: _,.blk .. :: _,[],h=>h.elim
  | .tmp _ :: _,.blk .. :: _,_,h=>h.elim
  | .cell .. :: _,.slot :: _,_,h=>h.elim
theorem z7 {fn:Func} {F:List aF} {cM:Value→List aF→Prop} {x:Exit} {l:List Value} {L:List aF} (gs:List EO) (js:List (Nat × Bool)) (k:Nat) (hp:cM (one l) L) (hx:x=.ret ∨ x=.normal) (hr:Bw P E H fn.results.toList gs l) (hj:preO js H=some L) (hF:(jD js H).drop k=F) :
    QH (AP P fn (BN F cM)) x E H:=fun s ok hs=>by
  have h1:=sg js hs (si hj)
  subst hF
  have h2:(L++(jD js H).drop k).Sublist (L++jD js H):=List.Sublist.append (List.Sublist.refl _) (List.drop_sublist ..)
  have h3:Holds s (L++(jD js H).drop k):=⟨fun y hy=>h1.q y (h2.subset hy),fun b hb=>h1.own b (by
    obtain ⟨y,hy,hby⟩:=List.mem_flatMap.1 hb
    exact List.mem_flatMap.2 ⟨y,h2.subset hy,hby⟩),h1.nd.sublist (u0 h2)⟩
  refine ⟨E,s,fun _=>rfl,rfl,?_⟩
  have main:∀ μ a,Ag μ fn.ntmps E a→∃ v,(results fn a.tmps).run P s.w=.ok v s.w∧BN ((jD js H).drop k) cM (.returned v) s.w:=fun μ a ag=>by
    refine ⟨one l,?_,one l,L,s,rfl,rfl,ok,hp,h3⟩
    have:=wj (P:=P) ag hs _ _ _ hr
    have e:(fn.results.mapM (m:=Sem) fun | .tmp t=>pure (a.tmps.getD t undef) | .cell p t=>do loadVar t (← asAddr (a.tmps.getD p undef))).run P s.w=.ok l.toArray s.w:=by
      rw [Array.mapM_eq_mapM_toList,Sem.run_map,this];rfl
    have e2:(results fn a.tmps).run P s.w=((fn.results.mapM (m:=Sem) fun | .tmp t=>pure (a.tmps.getD t undef) | .cell p t=>do loadVar t (← asAddr (a.tmps.getD p undef))).run P s.w).andThen
        (fun vs w=>(pure (if h:vs.size=1 then vs[0] else .tuple vs):Sem Value).run P w):=Sem.run_bind ..
    rw [e2,e]
    simp only [Result.andThen_ok,Sem.run_pure]
    congr 1
    match l with
    | []=>rfl
    | [v]=>rfl
    | v :: u :: r=>simp [one]
  rcases hx with rfl | rfl <;> exact main
/- ---- joins -/
def FS {X:Type} (EE:X→List (Nat × Value)) (HH:X→List aF) (C:X→Prop) (Q:cM):cM
  | .normal,E,s=>∃ x,C x∧agree (EE x) E∧s.Ok∧Holds s (HH x)
  | e,E,s=>Q e E s
theorem dt {X:Type} {c:Code} (EE:X→List (Nat × Value)) (HH:X→List aF) (C:X→Prop) (h1:WH P n c (FS EE HH C Q) E H) (h2:∀ x,C x→∀ j,QH Q .normal ⟨EE x,j⟩ (HH x)):WH P n c Q E H:=fun s ok hs μ a ag =>
  wpIn_mono (h1 s ok hs μ a ag) fun e a' w' hq=>by
    obtain ⟨E',s',ag',rfl,hq⟩:=hq
    cases e with
    | normal =>
      obtain ⟨x,hc,hag,ok',hs'⟩:=hq
      exact (h2 x hc E'.get).qa ok' hs' (ag'.trim hag)
    | _=>exact ⟨E',s',ag',rfl,hq⟩
theorem bF {X:Type} {EE:X→List (Nat × Value)} {HH:X→List aF} {C:X→Prop} (x:X) (hc:C x) (hE:agree (EE x) E) (hH:kj H (HH x)):QH (FS EE HH C Q) .normal E H:=fun s ok hs=>by
  obtain ⟨s',ew,ok',hs'⟩:=hH s ok hs
  exact ⟨E,s',fun _=>rfl,ew,x,hc,hE,ok',hs'⟩
theorem JL {X:Type} {EE:X→List (Nat × Value)} {HH:X→List aF} {C:X→Prop} (h:QH Q .ret E H):QH (FS EE HH C Q) .ret E H:=h
/- ---- loops -/
def Nu {S R:Type} (step:S→Option (Out S R)) (k:Nat) (r:R):Out S R→Prop
  | .go s'=>vm step k s'=some r
  | .fin r'=>r'=r
theorem F1 {S R:Type} {step:S→Option (Out S R)} {k:Nat} {s:S} {r:R} (h:vm step k s=some r):∃ k' o,k=k'+1∧step s=some o∧Nu step k' r o:=by
  cases k with
  | zero=>cases h
  | succ k =>
    simp only [vm] at h
    split at h
    · cases h
    · rename_i s' hs;exact ⟨k,_,rfl,hs,h⟩
    · rename_i r' hs;exact ⟨k,_,rfl,hs,Option.some.inj h⟩
def MS {S R G:Type} (step:S→Option (Out S R)) (r:R) (EE:S→G→List (Nat × Value)) (HH:S→G→List aF) (k:Nat) (Q:cM):cM
  | .normal,E,s=>∃ s' g',vm step k s'=some r∧agree (EE s' g') E∧s.Ok∧Holds s (HH s' g')
  | e,E,s=>Q e E s
theorem Pe {S R G:Type} {c:Code} {step:S→Option (Out S R)} {r:R} {N:Nat} {s0:S} (EE:S→G→List (Nat × Value)) (HH:S→G→List aF) (g0:G) (hl:vm step N s0=some r) (hE:agree (EE s0 g0) E) (hH:kj H (HH s0 g0))
    (round:∀ k s g o,step s=some o→Nu step k r o→∀ j,WH P n c (MS step r EE HH k Q) ⟨EE s g,j⟩ (HH s g)):WH P n (.loop c) Q E H:=by
  refine Am (X:=Nat × S × G) (fun x=>vm step x.1 x.2.1=some r) (fun x=>EE x.2.1 x.2.2) (fun x=>HH x.2.1 x.2.2) (fun x=>x.1) (N,s0,g0) hl hE hH ?_
  rintro ⟨k,s,g⟩ hI j st ok hs μ a ag
  obtain ⟨k',o,rfl,hst,hn⟩:=F1 hI
  refine wpIn_mono (round k' s g o hst hn j st ok hs μ a ag) fun e a' w' hq=>?_
  obtain ⟨E',s',ag',rfl,hq⟩:=hq
  cases e with
  | normal =>
    obtain ⟨s1,g1,h1,h2,h3,h4⟩:=hq
    exact ⟨E',s',ag',rfl,(k',s1,g1),h1,Nat.lt_succ_self _,h2,h3,h4⟩
  | _=>exact ⟨E',s',ag',rfl,hq⟩
theorem Px {S R G:Type} {step:S→Option (Out S R)} {r:R} {EE:S→G→List (Nat × Value)} {HH:S→G→List aF} {k:Nat} {s':S} (g':G) (h:Nu step k r (.go s')) (hE:agree (EE s' g') E) (hH:kj H (HH s' g')):QH (MS step r EE HH k Q) .normal E H:=fun s ok hs=>by
  obtain ⟨s1,ew,ok',hs'⟩:=hH s ok hs
  exact ⟨E,s1,fun _=>rfl,ew,s',g',h,hE,ok',hs'⟩
theorem GG {S R G:Type} {step:S→Option (Out S R)} {r:R} {EE:S→G→List (Nat × Value)} {HH:S→G→List aF} {k:Nat} (h:QH Q .ret E H):QH (MS step r EE HH k Q) .ret E H:=h
theorem tL {S R G:Type} {step:S→Option (Out S R)} {r:R} {EE:S→G→List (Nat × Value)} {HH:S→G→List aF} {k i:Nat} (h:QH Q (.exit i) E H):QH (MS step r EE HH k Q) (.exit i) E H:=h
def NM {S R:Type} (body:Nat→S→Option (Out S R)) (rem k:Nat) (r:Out S R):Out S R→Prop
  | .go s'=>qo body rem (k+1) s'=some r
  | .fin r'=>.fin r'=r
def NN {S R G:Type} (body:Nat→S→Option (Out S R)) (r:Out S R) (EE:Nat→S→G→List (Nat × Value)) (HH:Nat→S→G→List aF) (rem k:Nat) (Q:cM):cM
  | .normal,E,s=>∃ s' g',qo body rem (k+1) s'=some r∧agree (EE (k+1) s' g') E∧s.Ok∧Holds s (HH (k+1) s' g')
  | e,E,s=>Q e E s
def NQ (Q:cM):cM
  | .normal,_,_=>False
  | e,E,s=>Q e E s
theorem Nm {S R G:Type} {c:Code} {body:Nat→S→Option (Out S R)} {r:Out S R} {N k0:Nat} {s0:S} (EE:Nat→S→G→List (Nat × Value)) (HH:Nat→S→G→List aF) (g0:G) (hl:qo body (N - k0) k0 s0=some r) (hN:k0≤N) (hE:agree (EE k0 s0 g0) E) (hH:kj H (HH k0 s0 g0))
    (last:∀ s g,r=.go s→∀ j,WH P n c (NQ Q) ⟨EE N s g,j⟩ (HH N s g))
    (round:∀ rem k s g o,k0≤k∧k < N→body k s=some o→NM body rem k r o→∀ j,WH P n c (NN body r EE HH rem k Q) ⟨EE k s g,j⟩ (HH k s g)):WH P n (.loop c) Q E H:=by
  refine Am (X:=Nat × Nat × S × G) (fun x=>qo body x.1 x.2.1 x.2.2.1=some r∧x.1+x.2.1=N∧k0≤x.2.1) (fun x=>EE x.2.1 x.2.2.1 x.2.2.2) (fun x=>HH x.2.1 x.2.2.1 x.2.2.2) (fun x=>x.1) (N - k0,k0,s0,g0) ⟨hl,by simp only;omega,Nat.le_refl _⟩ hE hH ?_
  rintro ⟨rem,k,s,g⟩ ⟨hI,hk,hk0⟩ j st ok hs μ a ag
  simp only at hI hk hk0
  cases rem with
  | zero =>
    have e:k=N:=by omega
    subst e
    refine wpIn_mono (last s g (Option.some.inj hI).symm j st ok hs μ a ag) fun e a' w' hq=>?_
    obtain ⟨E',s',ag',rfl,hq⟩:=hq
    cases e with
    | normal=>exact hq.elim
    | _=>exact ⟨E',s',ag',rfl,hq⟩
  | succ rem =>
    simp only [qo] at hI
    have hb:∃ o,body k s=some o∧NM body rem k r o:=by
      split at hI
      · cases hI
      · rename_i s' h;exact ⟨_,h,hI⟩
      · rename_i r' h;exact ⟨_,h,Option.some.inj hI⟩
    obtain ⟨o,ho,hn⟩:=hb
    refine wpIn_mono (round rem k s g o ⟨hk0,by omega⟩ ho hn j st ok hs μ a ag) fun e a' w' hq=>?_
    obtain ⟨E',s',ag',rfl,hq⟩:=hq
    cases e with
    | normal =>
      obtain ⟨s1,g1,h1,h2,h3,h4⟩:=hq
      exact ⟨E',s',ag',rfl,(rem,k+1,s1,g1),⟨h1,by simp only;omega,by simp only;omega⟩,Nat.lt_succ_self _,h2,h3,h4⟩
    | _=>exact ⟨E',s',ag',rfl,hq⟩
theorem NJ {S R G:Type} {body:Nat→S→Option (Out S R)} {r:Out S R} {EE:Nat→S→G→List (Nat × Value)} {HH:Nat→S→G→List aF} {rem k:Nat} {s':S} (g':G) (h:NM body rem k r (.go s')) (hE:agree (EE (k+1) s' g') E) (hH:kj H (HH (k+1) s' g')) :
    QH (NN body r EE HH rem k Q) .normal E H:=fun s ok hs=>by
  obtain ⟨s1,ew,ok',hs'⟩:=hH s ok hs
  exact ⟨E,s1,fun _=>rfl,ew,s',g',h,hE,ok',hs'⟩
theorem ft {S R G:Type} {body:Nat→S→Option (Out S R)} {r:Out S R} {EE:Nat→S→G→List (Nat × Value)} {HH:Nat→S→G→List aF} {rem k:Nat} (h:QH Q .ret E H):QH (NN body r EE HH rem k Q) .ret E H:=h
theorem bf {i:Nat} (h:QH Q (.exit i) E H):QH (NQ Q) (.exit i) E H:=h
theorem iC {k k0 N:Nat} (h:k0≤k∧k < N):decide ((k:Int) < (N:Int))=true:=decide_eq_true (by omega)
theorem iD {N:Nat}:decide ((N:Int) < (N:Int))=false:=decide_eq_false (by omega)
/-- a range that never ends early -/
def OJ {S G:Type} (body:Nat→S→Option S) (r:S) (EE:Nat→S→G→List (Nat × Value)) (HH:Nat→S→G→List aF) (rem k:Nat) (Q:cM):cM
  | .normal,E,s=>∃ s' g',cV body rem (k+1) s'=some r∧agree (EE (k+1) s' g') E∧s.Ok∧Holds s (HH (k+1) s' g')
  | e,E,s=>Q e E s
theorem vY {S G:Type} {c:Code} {body:Nat→S→Option S} {r:S} {N k0:Nat} {s0:S} (EE:Nat→S→G→List (Nat × Value)) (HH:Nat→S→G→List aF) (g0:G) (hl:cV body (N - k0) k0 s0=some r) (hN:k0≤N) (hE:agree (EE k0 s0 g0) E) (hH:kj H (HH k0 s0 g0))
    (last:∀ g j,WH P n c (NQ Q) ⟨EE N r g,j⟩ (HH N r g))
    (round:∀ rem k s g s',k0≤k∧k < N→body k s=some s'→cV body rem (k+1) s'=some r→∀ j,WH P n c (OJ body r EE HH rem k Q) ⟨EE k s g,j⟩ (HH k s g)):WH P n (.loop c) Q E H:=by
  refine Am (X:=Nat × Nat × S × G) (fun x=>cV body x.1 x.2.1 x.2.2.1=some r∧x.1+x.2.1=N∧k0≤x.2.1) (fun x=>EE x.2.1 x.2.2.1 x.2.2.2) (fun x=>HH x.2.1 x.2.2.1 x.2.2.2) (fun x=>x.1) (N - k0,k0,s0,g0) ⟨hl,by simp only;omega,Nat.le_refl _⟩ hE hH ?_
  rintro ⟨rem,k,s,g⟩ ⟨hI,hk,hk0⟩ j st ok hs μ a ag
  simp only at hI hk hk0
  cases rem with
  | zero =>
    have e:k=N:=by omega
    subst e
    cases hI
    refine wpIn_mono (last g j st ok hs μ a ag) fun e a' w' hq=>?_
    obtain ⟨E',s',ag',rfl,hq⟩:=hq
    cases e with
    | normal=>exact hq.elim
    | _=>exact ⟨E',s',ag',rfl,hq⟩
  | succ rem =>
    simp only [cV] at hI
    split at hI
    · cases hI
    · rename_i s' hb
      refine wpIn_mono (round rem k s g s' ⟨hk0,by omega⟩ hb hI j st ok hs μ a ag) fun e a' w' hq=>?_
      obtain ⟨E',s1,ag',rfl,hq⟩:=hq
      cases e with
      | normal =>
        obtain ⟨s2,g1,h1,h2,h3,h4⟩:=hq
        exact ⟨E',s1,ag',rfl,(rem,k+1,s2,g1),⟨h1,by simp only;omega,by simp only;omega⟩,Nat.lt_succ_self _,h2,h3,h4⟩
      | _=>exact ⟨E',s1,ag',rfl,hq⟩
theorem NL {S G:Type} {body:Nat→S→Option S} {r:S} {EE:Nat→S→G→List (Nat × Value)} {HH:Nat→S→G→List aF} {rem k:Nat} {s':S} (g':G) (h:cV body rem (k+1) s'=some r) (hE:agree (EE (k+1) s' g') E) (hH:kj H (HH (k+1) s' g')) :
    QH (OJ body r EE HH rem k Q) .normal E H:=fun s ok hs=>by
  obtain ⟨s1,ew,ok',hs'⟩:=hH s ok hs
  exact ⟨E,s1,fun _=>rfl,ew,s',g',h,hE,ok',hs'⟩
theorem jA {k k0:Nat} {z:Int} (h:k0≤k∧k < max k0 z.toNat):decide ((k:Int) < z)=true:=decide_eq_true (by omega)
theorem jz {k0:Nat} {z:Int}:decide (((max k0 z.toNat:Nat):Int) < z)=false:=decide_eq_false (by omega)
theorem BB {k k0:Nat} {z:Int} (h:k0≤k∧k < max k0 (z+1).toNat):decide ((k:Int)≤z)=true:=decide_eq_true (by omega)
theorem BA {k0:Nat} {z:Int}:decide (((max k0 (z+1).toNat:Nat):Int)≤z)=false:=decide_eq_false (by omega)
/-- heap to heap: what is wanted is taken out, k items beside it are forgotten -/
theorem Qc {js:List (Nat × Bool)} {k:Nat} {L:List aF} (hj:preO js H=some L) (hF:(jD js H).drop k=F):kj H (L++F):=fun s ok hs=>⟨s,rfl,ok,by
    have h1:=sg js hs (si hj)
    subst hF
    have h2:(L++(jD js H).drop k).Sublist (L++jD js H):=List.Sublist.append (List.Sublist.refl _) (List.drop_sublist ..)
    refine ⟨fun y hy=>h1.q y (h2.subset hy),fun b hb=>h1.own b ?_,h1.nd.sublist ?_⟩
    · obtain ⟨y,hy,hby⟩:=List.mem_flatMap.1 hb
      exact List.mem_flatMap.2 ⟨y,h2.subset hy,hby⟩
    · exact u0 h2⟩
theorem PE {js:List (Nat × Bool)} {k:Nat} {L B:List aF} (hj:preO js H=some (L++B)) (hF:(jD js H).drop k=F):kj H (L++(B++F)):=by
  rw [← List.append_assoc];exact Qc hj hF
theorem KW {l:List (Nat × Value)} (h:(l.map (·.1)).map E.get=l.map (·.2)):agree l E:=zh h
/-- a slot's value, spelt anew -/
theorem PG {ops:sO} {i t:Nat} {b c:Bool} (hb:b=c) (h:E.get t=.bool b) (g:WI P n ops i Q (E.put t (.bool c)) H):WI P n ops i Q E H:=fun s ok hs μ act ag=>by
  refine g s ok hs μ act (ag.same fun u=>?_)
  rw [Env.get_put]
  split
  · rename_i hu;subst hu;rw [h,hb]
  · rfl
def Qm (T:vA) (E:Env) (o:Oper):Option Value:=wi T E o
/-- An operation that only computes, its value spelt anew. -/
theorem qV {T:vA} {ops:sO} {i:Nat} (hT:T.ok P=true) {v v':Value} (e:v=v') (h:dec n ops E i (Qm T)=some v) (g:WI P n ops (i+1) Q (E.putO (eM ops i) v') H):WI P n ops i Q E H:=by
  subst e
  exact qx h (fun o ho s _ _=>sn hT ho s.w) g
def O2 (P:Program) (n:Nat) (ops:sO) (E:Env) (i:Nat) (w:World):Option (Result Next):=dec n ops E i (fun E o=>some ((execOp E.ev o).run P w))
/-- An operation that the kernel runs by itself, in whatever world. -/
theorem bM {ops:sO} {i:Nat} {v:Value} (h:∀ w,O2 P n ops E i w=some (.ok (.value v) w)) (g:WI P n ops (i+1) Q (E.putO (eM ops i) v) H):WI P n ops i Q E H:=by
  obtain ⟨o,h1,h2,h3,h4,h5⟩:=rk (h default)
  rw [h5] at g
  refine Ap (X:=Unit) (C:=fun _=>True) (V:=fun _=>v) (H':=fun _=>H) h1 h2 h3 (fun s ok hs=>⟨(),s,?_,trivial,ok,hs⟩) (fun _ _=>g)
  obtain ⟨o',h1',_,_,h4',_⟩:=rk (h s.w)
  rw [h1] at h1'
  cases h1'
  exact Option.some.inj h4'
def OC (E:Env) (o:Oper):Option (Bool × Value × Value) :=
  match o.op with
  | .call c=>match c.callee,c.args.toList with
    | .builtin .max,[x,y]=>some (true,E.ev x,E.ev y)
    | .builtin .min,[x,y]=>some (false,E.ev x,E.ev y)
    | _,_=>none
  | _=>none
theorem CQ {o:Oper} {m:Bool} {k:IntKind} {x y z:Int} {w:World} (h:OC E o=some (m,.int k x,.int k y)) (hz:z=(match m with | true=>if y > x then y else x | false=>if y < x then y else x)):(execOp E.ev o).run P w=.ok (.value (.int k z)) w:=by
  unfold OC at h
  split at h
  · rename_i c hop
    split at h
    · rename_i x' y' hc ha
      simp only [Option.some.injEq,Prod.mk.injEq] at h
      obtain ⟨rfl,hx,hy⟩:=h
      obtain ⟨callee,args,argTypes⟩:=c
      simp only at hc ha
      have ha':args=#[x',y']:=by rw [← Array.toArray_toList (xs:=args),ha]
      subst ha';subst hc;subst hz
      unfold execOp
      rw [hop]
      simp [resolve,invoke,builtin,hx,hy,Builtin.max_,Builtin.max2]
    · rename_i x' y' hc ha
      simp only [Option.some.injEq,Prod.mk.injEq] at h
      obtain ⟨rfl,hx,hy⟩:=h
      obtain ⟨callee,args,argTypes⟩:=c
      simp only at hc ha
      have ha':args=#[x',y']:=by rw [← Array.toArray_toList (xs:=args),ha]
      subst ha';subst hc;subst hz
      unfold execOp
      rw [hop]
      simp [resolve,invoke,builtin,hx,hy,Builtin.min_,Builtin.min2]
    · cases h
  · cases h
theorem MD {ops:sO} {i:Nat} {x y z:Int} (hz:some (max x y)=some z) (h:dec n ops E i OC=some (true,.int .i64 x,.int .i64 y)) (g:WI P n ops (i+1) Q (E.putO (eM ops i) (.int .i64 z)) H):WI P n ops i Q E H :=
  qx h (fun o ho s _ _=>CQ ho (by cases hz;simp only;omega)) g
theorem ME {ops:sO} {i:Nat} {x y z:Int} (hz:some (min x y)=some z) (h:dec n ops E i OC=some (false,.int .i64 x,.int .i64 y)) (g:WI P n ops (i+1) Q (E.putO (eM ops i) (.int .i64 z)) H):WI P n ops i Q E H :=
  qx h (fun o ho s _ _=>CQ ho (by cases hz;simp only;omega)) g
/-- an element of an array of numbers -/
def NX (P:Program) (t:TypeId):Option (Nat × TypeId):=match P.underlying t with | some (.array n e)=>some (n,e) | _=>none
def Ng (E:Env) (o:Oper):Option (TypeId × Value × Value):=match o.op with | .index t x y=>some (t,E.ev x,E.ev y) | _=>none
theorem N2 {ops:sO} {i:Nat} {t e:TypeId} {by_ m:Nat} {z:Value} {k:IntKind} {xs:List Int} {x:Int} (hx:xs[m]?=some x) (h:dec n ops E i Ng=some (t,.agg (xs.map (Value.int .i64)).toArray,.int k (m:Int))) (ht:NX P t=some (xs.length,e)) (he:dM P e=some (false,1,by_,z))
    (g:WI P n ops (i+1) Q (E.putO (eM ops i) (.int .i64 x)) H):WI P n ops i Q E H :=
  qx h (fun o ho s _ _=>by
    unfold Ng at ho
    split at ho
    · rename_i t' a b hop
      simp only [Option.some.injEq,Prod.mk.injEq] at ho
      obtain ⟨rfl,ha,hb⟩:=ho
      obtain ⟨ii,d,hi,hd,hagg,hsz,_,_⟩:=iJ he
      have hu:P.underlying t'=some (.array xs.length e):=by
        unfold NX at ht
        split at ht
        · rename_i n' e' hu;cases ht;exact hu
        · cases ht
      have hlt:=(List.getElem?_eq_some_iff.1 hx).1
      have hs:(Go.sizeOf e).run P s.w=.ok 1 s.w:=by simp [Go.sizeOf,typeInfo,hi,hsz]
      have hag:(isAgg e).run P s.w=.ok false s.w:=by rw [yX hd,hagg]
      unfold execOp
      rw [hop]
      refine dX ?_
      rw [ha,hb]
      have hc:((xs.map (Value.int .i64)).toArray)[m]?=some (.int .i64 x):=by simp [hx]
      have hi2:(0:Int)≤(m:Int)∧((m:Nat):Int) < ((xs.length:Nat):Int):=by omega
      simp [Instr.index,asIntOf,run_underlying hu,hs,part,hag,hlt]
      exact (List.getElem?_eq_some_iff.1 hx).2
    · cases ho) g
/-- a slice beside nil -/
def P7 (E:Env) (o:Oper):Option (Bool × TypeId × Value) :=
  match o.op with
  | .binOp .eql t x y _=>match E.ev y with | .slice none _ _=>some (true,t,E.ev x) | _=>none
  | .binOp .neq t x y _=>match E.ev y with | .slice none _ _=>some (false,t,E.ev x) | _=>none
  | _=>none
theorem yW {t e:TypeId} (ht:rH P t=some e) (A:Option Addr) (N c a b:Nat) (w:World):(Op.equal t (.slice A N c) (.slice none a b)).run P w=.ok A.isNone w:=by
  have hu:=lh ht
  have e:Op.equal t (.slice A N c) (.slice none a b)=Op.equalIn (Nat.pred Op.maxDepth+1) t (.slice A N c) (.slice none a b):=rfl
  rw [e,Op.equalIn]
  cases A <;> simp [run_underlying hu]
theorem N5 {α:Type} {kd:Kd α} {ops:sO} {i:Nat} {t e:TypeId} {v:Value} {xs:List α} {b:Bool} (j:Nat) (hp:pick H j=some (ry kd v xs)) (h:dec n ops E i P7=some (b,t,v)) (ht:rH P t=some e)
    (g1:(∃ c,v=.slice none 0 c)→xs=[]→WI P n ops (i+1) Q (E.putO (eM ops i) (.bool b)) H) (g2:WI P n ops (i+1) Q (E.putO (eM ops i) (.bool !b)) H):WI P n ops i Q E H:=fun s ok hs=>by
  obtain ⟨A,c,rfl,_,_,_,hq⟩:=hs.q _ (cg hp)
  have key:WI P n ops (i+1) Q (E.putO (eM ops i) (.bool (if A.isNone then b else !b))) H:=by
    cases A with
    | none =>
      have hx:xs=[]:=by
        rcases hq with h | ⟨_,_,_,_,_,_,h,_⟩
        · exact h
        · cases h
      subst hx
      exact g1 ⟨c,rfl⟩ rfl
    | some a=>exact g2
  refine qx h (fun o ho s _ _=>?_) key s ok hs
  unfold P7 at ho
  split at ho
  · rename_i t' x y yt hop
    split at ho
    · rename_i hy
      simp only [Option.some.injEq,Prod.mk.injEq] at ho
      obtain ⟨rfl,rfl,hx⟩:=ho
      unfold execOp
      rw [hop]
      refine dX ?_
      simp only [hx,hy]
      cases A <;> simp [eqGuard,Go.binOp,yW ht]
    · cases ho
  · rename_i t' x y yt hop
    split at ho
    · rename_i hy
      simp only [Option.some.injEq,Prod.mk.injEq] at ho
      obtain ⟨rfl,rfl,hx⟩:=ho
      unfold execOp
      rw [hop]
      refine dX ?_
      simp only [hx,hy]
      cases A <;> simp [eqGuard,Go.binOp,yW ht]
    · cases ho
  · cases ho
theorem WI.hd {ops:sO} {i:Nat} {x y:aF} (e:x=y) (g:WI P n ops i Q E (y :: H)):WI P n ops i Q E (x :: H):=e ▸ g
/-- an item is frozen in its place -/
theorem bG {α:Type} {kd:Kd α} {e:TypeId} {v:Value} {xs:List α} {H:List aF} (j:Nat) (hp:pick H j=some (bD kd e v xs)):kj H (ry kd v xs :: ck H j):=fun s ok hs=>kj.frz s ok (Holds.out hs hp)
theorem cc {v:Value} {N:Nat} (h:vZ H v N):∀ s,Holds s H→v.oneCell'=true:=fun s hs=>by
  obtain ⟨A,c,hv,_⟩:=h s hs
  rw [hv];rfl
theorem oN:∀ s,Holds s H→∀ u ∈ ([]:List Value),u.oneCell'=true:=fun _ _ _ h=>nomatch h
theorem oC {c:Value} {cs:List Value} (h:∀ s,Holds s H→c.oneCell'=true) (t:∀ s,Holds s H→∀ u ∈ cs,u.oneCell'=true):∀ s,Holds s H→∀ u ∈ c :: cs,u.oneCell'=true:=fun s hs u hu=>by
  rcases List.mem_cons.1 hu with rfl | hu
  · exact h s hs
  · exact t s hs u hu
theorem dK {α:Type} {kd:Kd α}:∀ s,Holds s H→cW kd s [] []:=fun _ _=>rfl
theorem cS {α:Type} {kd:Kd α} {x:α} {g:kd.G} {xs:List α} {cs:List Value} (hi:∀ s,Holds s H→∀ a ∈ kd.items x g,a.q s) (hr:∀ s,Holds s H→cW kd s xs cs):∀ s,Holds s H→cW kd s (x :: xs) (kd.cells x g++cs):=fun s hs =>
  ⟨kd.cells x g,cs,rfl,⟨g,rfl,hi s hs⟩,hr s hs⟩
theorem cz {α:Type} {xs:List α} {k:Nat} {x:α} (h:xs[k]?=some x):k < xs.length:=(List.getElem?_eq_some_iff.1 h).1
theorem OH:OI none 0:=rfl
theorem FY {k:IntKind} {l:Int}:OI (some (.int k l)) l:=⟨k,rfl⟩
theorem Nn {N:Nat}:OE none (N:Int) N:=rfl
theorem Hz {k:IntKind} {h:Int} {N:Nat}:OE (some (.int k h)) h N:=⟨k,rfl⟩
theorem yE {a b c:Nat} (h:some (nB a b)=some c):nC .add .u64 (a:Int) (b:Int)=some (c:Int):=by cases h;exact N6
theorem AR {a b c:Nat} (h:some (yy a b)=some c):nC .sub .u64 (a:Int) (b:Int)=some (c:Int):=by cases h;exact Oa
theorem AO {a b c:Nat} (h:some (wU a b)=some c):nC .mul .u64 (a:Int) (b:Int)=some (c:Int):=by cases h;exact N8
theorem AN {a b c:Nat} (h:some (wI a b)=some c):nC .and .u64 (a:Int) (b:Int)=some (c:Int):=by cases h;exact N7
theorem O3 {a b c:Nat} (h:some (Nw a b)=some c):nC .or .u64 (a:Int) (b:Int)=some (c:Int):=by cases h;exact PH
theorem EG {a:Int} {c:Nat} (h:some (us a)=some c):IntKind.u64.wrap a=(c:Int):=by cases h;exact Qz
theorem OA {a c:Int} (h:some (J1 a)=some c):IntKind.i64.wrap a=c:=by cases h;exact Qy
theorem bA {k k0 N:Nat} (h:k0≤k∧k < N) (hN:N < 9223372036854775807):nC .add .i64 (k:Int) ((1:Nat):Int)=some ((k+1:Nat):Int):=cD (by unfold dZ Hy;rw [if_pos (by omega)];rfl)
theorem bT {n:Nat} {u:Unit} (h:m9 n=some u):n < 9223372036854775807:=by unfold m9 at h;split at h;assumption;cases h
theorem bk {α:Type} {kd:Kd α} {v:Value} {xs:List α} (j:Nat) (hp:pick H j=some (ry kd v xs)):∀ s,Holds s H→xs.length < 9223372036854775807:=fun s hs=>by
  obtain ⟨A,c,_,_,_,h,_⟩:=hs.q _ (cg hp);omega
theorem fD {α:Type} {kd:Kd α} {e:TypeId} {v:Value} {xs:List α} (j:Nat) (hp:pick H j=some (bD kd e v xs)):∀ s,Holds s H→xs.length < 9223372036854775807:=fun s hs=>by
  obtain ⟨A,c,_,_,_,h,_⟩:=hs.q _ (cg hp);omega
theorem be {cd:Code} {q:Prop} (hq:∀ s,Holds s H→q) (g:q→WH P n cd Q E H):WH P n cd Q E H:=fun s ok hs=>g (hq s hs) s ok hs
theorem fI {α:Type} {a b:α} (h:some a=some b):b=a:=(Option.some.inj h).symm
/-- A test whose outcome is known. -/
theorem dP {c:Operand} {x y:Code} {b:Bool} (hb:b=true) (hc:E.ev c=.bool b) (ht:WH P n x Q E H):WH P n (.cond c x y) Q E H:=Dx b hc (fun _=>ht) (fun h=>by rw [hb] at h;cases h)
theorem cU {c:Operand} {x y:Code} {b:Bool} (hb:b=false) (hc:E.ev c=.bool b) (ht:WH P n y Q E H):WH P n (.cond c x y) Q E H:=Dx b hc (fun h=>by rw [hb] at h;cases h) (fun _=>ht)
end
end Gw
