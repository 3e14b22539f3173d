/- Own words: numbers, calls, ends, joins and loops, told by the printed plain functions. -/
import Derived.Test.YtpjenmchinpgaaaGreatDoorGw4
set_option linter.unusedVariables false
namespace Gw
open Go Gv

def OD{α:Type}(xs:List α)(i:Int)(x:α):Option (List α):=if 0≤i∧i.toNat<xs.length then some (xs.set i.toNat x) else none
theorem ib{α:Type}{xs:List α}{i:Int}{x:α}(h:gY xs i=some x):i.toNat<xs.length:=by
 unfold gY at h;split at h
 ·exact(List.getElem?_eq_some_iff.1 h).1
 ·cases h
theorem iz{α:Type}{xs:List α}{i:Int}{x:α}(h:gY xs i=some x):i=(i.toNat:Int):=by
 unfold gY at h;split at h
 ·omega
 ·cases h
theorem ig{α:Type}{xs:List α}{i:Int}{x:α}(h:gY xs i=some x):xs[i.toNat]?=some x:=by
 unfold gY at h;split at h
 ·exact h
 ·cases h
theorem sz{α:Type}{xs ys:List α}{i:Int}{x:α}(h:OD xs i x=some ys):i=(i.toNat:Int):=by
 unfold OD at h;split at h
 ·omega
 ·cases h
/-- the printed functions' steps -/
theorem vq{α β:Type}{x:Option α}{f:α→Option β}{r:β}(h:(x >>= f)=some r):∃a,x=some a∧f a=some r:=by
 cases x with
 | none=>cases h
 | some a=>exact⟨a,rfl,h⟩
theorem NO{α:Type}{c:Bool}{x y:Option α}{r:α}(h:(bif c then x else y)=some r):(c=true∧x=some r)∨(c=false∧y=some r):=by
 cases c with
 | true=>exact .inl ⟨rfl,h⟩
 | false=>exact .inr ⟨rfl,h⟩

/- ---- numbers -/
def mT(op:BinOp)(k:IntKind)(m n:Int):Option Int :=
 match op with
 | .add=>some (k.wrap (m+n))
 | .sub=>some (k.wrap (m-n))
 | .mul=>some (k.wrap (m*n))
 | .quo=>if n=0 then none else some (k.wrap (m.tdiv n))
 | .rem=>if n=0 then none else some (m.tmod n)
 | .and=>some (k.wrap ((BitVec.ofInt k.bits m) &&& (BitVec.ofInt k.bits n)).toNat)
 | .or=>some (k.wrap ((BitVec.ofInt k.bits m) ||| (BitVec.ofInt k.bits n)).toNat)
 | .xor=>some (k.wrap ((BitVec.ofInt k.bits m) ^^^ (BitVec.ofInt k.bits n)).toNat)
 | _=>none
theorem wrap_u64(a:Nat):IntKind.u64.wrap (a:Int)=((a % 18446744073709551616:Nat):Int):=by
 simp[IntKind.wrap,IntKind.bits,IntKind.signed]
theorem zK(z:Int):IntKind.u64.wrap z=((sE z:Nat):Int):=by
 simp[IntKind.wrap,IntKind.bits,IntKind.signed,sE];omega
theorem vw(a:Nat):(BitVec.ofInt 64 (a:Int)).toNat=a % 18446744073709551616:=by
 simp
theorem OR{a b:Nat}:mT .add .u64 (a:Int) (b:Int)=some ((og a b:Nat):Int):=by
 simp only[mT,og];rw[←Int.natCast_add,wrap_u64]
theorem OT{a b:Nat}:mT .mul .u64 (a:Int) (b:Int)=some ((xD a b:Nat):Int):=by
 simp only[mT,xD];rw[←Int.natCast_mul,wrap_u64]
theorem OV{a b:Nat}:mT .sub .u64 (a:Int) (b:Int)=some ((yY a b:Nat):Int):=by
 simp only[mT,yY];rw[zK];rfl
theorem OS{a b:Nat}:mT .and .u64 (a:Int) (b:Int)=some ((xp a b:Nat):Int):=by
 show some (IntKind.u64.wrap (((BitVec.ofInt 64 (a:Int) &&& BitVec.ofInt 64 (b:Int):BitVec 64).toNat:Nat):Int))=_
 rw[wrap_u64,BitVec.toNat_and,vw,vw,Nat.mod_eq_of_lt (Nat.lt_of_le_of_lt Nat.and_le_left (Nat.mod_lt _ (by decide)))];rfl
theorem Qq{a b:Nat}:mT .or .u64 (a:Int) (b:Int)=some ((Od a b:Nat):Int):=by
 show some (IntKind.u64.wrap (((BitVec.ofInt 64 (a:Int) ||| BitVec.ofInt 64 (b:Int):BitVec 64).toNat:Nat):Int))=_
 rw[wrap_u64,BitVec.toNat_or,vw,vw,Nat.mod_eq_of_lt (Nat.or_lt_two_pow (n:=64) (Nat.mod_lt _ (by decide)) (Nat.mod_lt _ (by decide)))];rfl
theorem LA{a b c:Nat}(h:Ep a b=some c):mT .quo .u64 (a:Int) (b:Int)=some (c:Int):=by
 unfold Ep at h;split at h
 ·cases h
 ·cases h
  simp only[mT]
  rw[if_neg (by omega)]
  have:(a:Int).tdiv b=((a / b:Nat):Int):=rfl
  rw[this,wrap_u64]
theorem Ee{a b c:Nat}(h:xF a b=some c):mT .rem .u64 (a:Int) (b:Int)=some (c:Int):=by
 unfold xF at h;split at h
 ·cases h
 ·cases h
  simp only[mT]
  rw[if_neg (by omega)];rfl
theorem pR{z c:Int}(h:Ie z=some c):c=z ∧ -9223372036854775808≤z∧z<9223372036854775808:=by
 unfold Ie at h;split at h
 ·cases h;exact⟨rfl,by assumption⟩
 ·cases h
theorem xW{z c:Int}(h:Ie z=some c):IntKind.i64.wrap z=c:=by
 obtain⟨rfl,h1,h2⟩:=pR h
 rw[IntKind.wrap_i64];omega
theorem cC{a b c:Int}(h:ee a b=some c):mT .add .i64 a b=some c:=by simp only[mT];rw[xW h]
theorem fu{a b c:Int}(h:jB a b=some c):mT .sub .i64 a b=some c:=by simp only[mT];rw[xW h]
theorem ia{a b c:Int}(h:jX a b=some c):mT .mul .i64 a b=some c:=by simp only[mT];rw[xW h]
theorem zL{a b c:Int}(h:xz a b=some c):mT .quo .i64 a b=some c:=by
 unfold xz at h;split at h
 ·cases h
 ·simp only[mT];rw[if_neg (by assumption),xW h]
theorem OU{a b c:Int}(h:Ht a b=some c):mT .rem .i64 a b=some c:=by
 unfold Ht at h;split at h
 ·cases h
 ·cases h;simp only[mT];rw[if_neg (by assumption)]
section
variable {P:Program}{n:Nat}{Q:cQ}{E:Env}{H F:List aG}{ops:sH}{i:Nat}
def Pm(E:Env)(o:Oper):Option (BinOp×IntKind×IntKind×Int×Int) :=
 match o.op with
 | .binOp op _ x y _=>match E.ev x,E.ev y with
  | .int k a,.int k' b=>some (op,k,k',a,b)
  | _,_=>none
 | _=>none
theorem Bv{o:Oper}{op:BinOp}{k k':IntKind}{a b:Int}(h:Pm E o=some (op,k,k',a,b)):∃t yt x y,o.op=.binOp op t x y yt∧E.ev x=.int k a∧E.ev y=.int k' b:=by
 unfold Pm at h
 split at h
 ·rename_i op' t x y yt hop
  split at h
  ·rename_i hx hy;cases h;exact⟨t,yt,x,y,hop,hx,hy⟩
  ·cases h
 ·cases h
theorem aA{op:BinOp}{k:IntKind}{a b z:Int}(hz:mT op k a b=some z)(h:dec n ops E i Pm=some (op,k,k,a,b))(g:WI P n ops (i+1) Q (E.putO (eX ops i) (.int k z)) H):WI P n ops i Q E H :=
 qz h (λo ho s _ _=>by
  obtain⟨t,yt,x,y,hop,hx,hy⟩:=Bv ho
  unfold execOp
  rw[hop]
  simp only[]
  rw[hx,hy]
  cases op <;> simp only[mT] at hz <;> try (cases hz;done)
  case quo =>
   split at hz
   ·cases hz
   ·rename_i h0;cases hz;simp[eqGuard,Go.binOp,Op.intDiv,h0]
  case rem =>
   split at hz
   ·cases hz
   ·rename_i h0;cases hz;simp[eqGuard,Go.binOp,Op.intDiv,h0]
  all_goals (cases hz;simp[eqGuard,Go.binOp,Op.intArith,Op.intBits])) g
theorem xH{op:BinOp}{k yk:IntKind}{a b z:Int}(hop:op=.shl∨op=.shr)(hz:(Op.shift op k a yk b)=pure (.int k z))(h:dec n ops E i Pm=some (op,k,yk,a,b))(g:WI P n ops (i+1) Q (E.putO (eX ops i) (.int k z)) H):WI P n ops i Q E H :=
 qz h (λo ho s _ _=>by
  obtain⟨t,yt,x,y,hop',hx,hy⟩:=Bv ho
  unfold execOp
  rw[hop']
  simp only[]
  rw[hx,hy]
  rcases hop with e | e <;> (subst e;simp[eqGuard,Go.binOp,hz])) g
theorem AY{a c:Nat}{b:Int}{yk:IntKind}(h:vo a b=some c):Op.shift .shr .u64 (a:Int) yk b=pure (.int .u64 (c:Int)):=by
 unfold vo at h;split at h
 ·cases h
 ·rename_i h0
  cases h
  simp only[Op.shift]
  rw[if_neg (by omega)]
  have:((a:Int)).fdiv (2 ^ (min b.toNat 64))=((a / 2 ^ (min b.toNat 64):Nat):Int):=by
   rw[Int.fdiv_eq_ediv_of_nonneg _ (Int.le_of_lt (Int.pow_pos (by decide)))]
   norm_cast
  rw[show min b.toNat IntKind.u64.bits=min b.toNat 64 from rfl,this]
theorem Nr{a c:Nat}{b:Int}{yk:IntKind}(h:C1 a b=some c):Op.shift .shl .u64 (a:Int) yk b=pure (.int .u64 (c:Int)):=by
 unfold C1 at h;split at h
 ·cases h
 ·rename_i h0
  cases h
  simp only[Op.shift]
  rw[if_neg (by omega),show min b.toNat IntKind.u64.bits=min b.toNat 64 from rfl]
  have:(a:Int)*2 ^ (min b.toNat 64)=((a*2 ^ (min b.toNat 64):Nat):Int):=by norm_cast
  rw[this,wrap_u64]
def QM(T:wc)(E:Env)(o:Oper):Option (IntKind×Int) :=
 match o.op with
 | .convert st t x=>match E.ev x,Fo T.ints t,Fo T.ints st with
  | .int _ a,some k,some _=>some (k,a)
  | _,_,_=>none
 | _=>none
theorem uL{T:wc}(ht:T.ok P=true){k:IntKind}{a z:Int}(hz:k.wrap a=z)(h:dec n ops E i (QM T)=some (k,a))(g:WI P n ops (i+1) Q (E.putO (eX ops i) (.int k z)) H):WI P n ops i Q E H :=
 qz h (λo ho s _ _=>by
  subst hz
  unfold QM at ho
  split at ho
  ·rename_i hop
   split at ho
   ·rename_i hx hk hs
    cases ho
    exact sf ht (by unfold wQ;rw[hop];simp only[hx,hk,hs]) s.w
   ·cases ho
  ·cases ho) g
theorem Rl{a:Int}:IntKind.u64.wrap a=((sE a:Nat):Int):=zK a
theorem Rj{a:Int}:IntKind.i64.wrap a=KQ a:=by rw[IntKind.wrap_i64];rfl
/- ---- calls -/
/-- A contract, its arguments a list. -/
def Ct(P:Program)(f:FuncId)(l:List Value)(Pre:List aG)(cQ:Value→List aG→Prop):Prop:=Py P f l.toArray Pre cQ
/-- items are taken out (or copied, if nobody owns anything there) -/
def Az:List (Nat×Bool)→List aG→Option (List aG×List aG)
 | [],H=>some ([],H)
 | (j,cp)::r,H=>match pick H j with
  | some x=>(match cp with
   | true=>(match EI x with
    | true=>(match Az r H with | some (L,R)=>some (x::L,R) | none=>none)
    | false=>none)
   | false=>(match Az r (ct H j) with | some (L,R)=>some (x::L,R) | none=>none))
  | none=>none
theorem DI{x:aG}(h:EI x=true):x.bs=[]:=by unfold EI at h;split at h;assumption;cases h
theorem rW{s:St}:∀(js:List (Nat×Bool)) {A H L R:List aG},Holds s (A++H)→Az js H=some (L,R)→Holds s (A++(L++R))
 | [],A,H,L,R,h,e=>by cases e;exact h
 | (j,cp)::r,A,H,L,R,h,e=>by
  simp only[Az] at e
  split at e
  ·rename_i x hx
   split at e
   ·split at e
    ·rename_i hpr
     split at e
     ·rename_i L' R' hr
      cases e
      have h1:=rW r h hr
      have h2:=h1.consPr (DI hpr) (h.q x (List.mem_append_right _ (cj hx)))
      exact h2.perm (List.perm_middle (l₁:=A) (l₂:=L'++R) (a:=x)).symm
     ·cases e
    ·cases e
   ·split at e
    ·rename_i L' R' hr
     cases e
     have h1:Holds s ((A++[x])++ct H j):=by
      rw[List.append_assoc]
      exact h.perm (List.Perm.append_left A (kx H j x hx))
     have h2:=rW r h1 hr
     rw[List.append_assoc] at h2;exact h2
    ·cases e
  ·cases e
theorem rX{s:St}(js:List (Nat×Bool)){H L R:List aG}(h:Holds s H)(e:Az js H=some (L,R)):Holds s (L++R):=rW (A:=[]) js h e
def preO(js:List (Nat×Bool))(H:List aG):Option (List aG):=match Az js H with | some (L,_)=>some L | none=>none
def j8(js:List (Nat×Bool))(H:List aG):List aG:=match Az js H with | some (_,R)=>R | none=>[]
theorem rY{js:List (Nat×Bool)}{H L:List aG}(h:preO js H=some L):Az js H=some (L,j8 js H):=by
 unfold preO at h
 unfold j8
 split at h
 ·rename_i L' R hr;cases h;rw[hr]
 ·cases h
theorem G5{js:List (Nat×Bool)}{H L:List aG}(h:preO js H=some L):kJ H (L++j8 js H):=λs ok hs=>⟨s,rfl,ok,rX js hs (rY h)⟩
def sr(E:Env)(o:Oper):Option (FuncId×List Value) :=
 match o.op with
 | .call c=>match c.callee with
  | .value x=>match E.ev x with
   | .func (.func f) first captured=>some (f,first.toList++c.args.toList.map E.ev++captured.toList)
   | _=>none
  | _=>none
 | _=>none
def bz (P : Program) (f : FuncId) : Bool := match P.funcs[f]? with | some fn => fn.body.isSome && !(fn.name == "runtime.NumGoroutine") | none => false
theorem Ey{o:Oper}{f:FuncId}{l:List Value}(h:sr E o=some (f,l))(hf:bz P f=true)(w:World):(execOp E.ev o).run P w=.ok (.enter f l.toArray) w:=by
 unfold sr at h
 split at h
 ·rename_i c hop
  split at h
  ·rename_i x hc
   split at h
   ·rename_i f' first captured hx
    simp only[Option.some.injEq,Prod.mk.injEq] at h
    obtain⟨rfl,rfl⟩:=h
    unfold bz at hf
    split at hf
    ·rename_i fn hfn
     simp only[Bool.and_eq_true,Bool.not_eq_true'] at hf
     have:=HA (P:=P) (E:=E) (o:=o) hop hc hx hfn (by
      have h1:=hf.1
      cases hb:fn.body with
      | none=>rw[hb] at h1;cases h1
      | some _=>rfl) hf.2 w
     rw[this]
     congr 2
     apply Array.ext'
     simp
    ·cases hf
   ·cases h
  ·cases h
 ·cases h
/-- A call by contract. -/
theorem C6{f:FuncId}{l:List Value}{Pre:List aG}{cQ:Value→List aG→Prop}(js:List (Nat×Bool))(hspec:Ct P f l Pre cQ)(hp:preO js H=some Pre)(hf:bz P f=true)(h:dec n ops E i sr=some (f,l))
  (g:∀v L,cQ v L→WI P n ops (i+1) Q (E.putO (eX ops i) v) (L++j8 js H)):WI P n ops i Q E H:=by
 obtain⟨o,h1,h2,h3,h4,h5⟩:=re h
 rw[h5] at g
 exact K0 h1 h2 h3 (λw=>Ey h4 hf w) hspec (G5 hp) g
/-- A call of a function without a body. -/
def La (P:Program) (f:FuncId) (e:Array Value→Sem Value):Prop :=
  ∃ fn, P.funcs[f]? = some fn ∧ (fn.name == "runtime.NumGoroutine") = false ∧ fn.body.isNone = true ∧ Extern.findNext fn = none ∧ Extern.find fn = some e
theorem OK {f:FuncId} {l:List Value} {v:Value} {e:Array Value→Sem Value} (hf:La P f e) (hv:∀ w,(e l.toArray).run P w=.ok v w) (h:dec n ops E i sr=some (f,l)) (g:WI P n ops (i+1) Q (E.putO (eX ops i) v) H):WI P n ops i Q E H :=
  qz h (fun o ho s _ _=>by
    unfold sr at ho
    split at ho
    · rename_i c hop
      split at ho
      · rename_i x hc
        split at ho
        · rename_i f' first captured hx
          simp only [Option.some.injEq,Prod.mk.injEq] at ho
          obtain ⟨rfl,rfl⟩:=ho
          obtain ⟨fn,hfn,hn,hb,hx1,hx2⟩:=hf
          have hn' : ¬ fn.name = "runtime.NumGoroutine" := by simpa using hn
          have ha:(first++(c.args.map E.ev++captured))=(first.toList++c.args.toList.map E.ev++captured.toList).toArray:=by apply Array.ext';simp
          have hb':fn.body=none:=by simpa using hb
          unfold execOp
          rw [hop]
          have hv':=hv s.w
          rw [List.append_assoc] at hv' ha
          simp only [resolve,hc,hx,Deferred.ofValue,invoke,callFunc,Sem.run_bind,Sem.run_pure,Result.andThen_ok,Go.run_program,hfn]
          simp [hn',hb',hx1,hx2,mark,ha,Sem.run,hv']
        · cases ho
      · cases ho
    · cases ho) g
theorem LC{x y a b:Nat}(h1:some (og x y)=some a)(h2:some (Iu x y)=some b)(w:World):(add64Entry [.int .u64 (x:Int),.int .u64 (y:Int),.int .u64 ((0:Nat):Int)].toArray).run P w=.ok (.tuple #[.int .u64 (a:Int),.int .u64 (b:Int)]) w:=by
 cases h1;cases h2
 have:=run_add64 (P:=P) (x:Int) (y:Int) 0 (by omega) (by omega) (by omega) (by omega) w
 simpa[og,Iu] using this
end

theorem vy{A B:List aG}(h:A.Sublist B):(eB A).Sublist (eB B):=by
 induction h with
 | slnil=>exact List.Sublist.refl _
 | cons a _ ih=>simp only[eB,List.flatMap_cons] at *;exact ih.trans (List.sublist_append_right _ _)
 | cons_cons a _ ih=>simp only[eB,List.flatMap_cons] at *;exact List.Sublist.append (List.Sublist.refl _) ih
/- ---- the function's start and end -/
theorem ap{P:Program}{f:FuncId}{fn:Func}{c:Code}{l:List Value}{Pre:List aG}{cQ:Value→List aG→Prop}
  (hf:P.funcs[f]?=some fn) (hb:fn.body=some c) (hn:Nat.ble l.length fn.ntmps=true)
  (h:∀F,WH P fn.ntmps c (Bq P fn (Cc F cQ)) ⟨sK 0 l,λ_=>undef⟩ (Pre++F)):Ct P f l Pre cQ:=Eo hf hb hn h
section
variable {P:Program}{n:Nat}{Q:cQ}{E:Env}{H F:List aG}
/-- The end: what is handed over is taken out, the k items beside it are forgotten. -/
theorem bD{fn:Func}{F:List aG}{cQ:Value→List aG→Prop}{x:Exit}{l:List Value}{L:List aG}(js:List (Nat×Bool))(k:Nat)(hp:cQ (one l) L)(hx:x=.ret∨x=.normal)(hr:zy E fn.results.toList=some l)(hj:preO js H=some L)(hF:(j8 js H).drop k=F) :
  QH (Bq P fn (Cc F cQ)) x E H :=
 MS hx l hr L hp (λs ok hs=>⟨s,rfl,ok,by
  have h1:=rX js hs (rY hj)
  subst hF
  have h2:(L++(j8 js H).drop k).Sublist (L++j8 js H):=List.Sublist.append (List.Sublist.refl _) (List.drop_sublist ..)
  refine⟨λy hy=>h1.q y (h2.subset hy),λb hb=>h1.own b ?_,h1.nd.sublist ?_⟩
  ·obtain⟨y,hy,hby⟩:=List.mem_flatMap.1 hb
   exact List.mem_flatMap.2 ⟨y,h2.subset hy,hby⟩
  ·exact vy h2⟩)

/-- a result: a slot, or the j-th item's block -/
inductive FA where
 | slot
 | blk (j:Nat) (e:TypeId) (t:TypeId)
def BZ(P:Program)(E:Env)(H:List aG):List ResultVar→List FA→List Value→Prop
 | [],[],l=>l=[]
 | .tmp t::r,.slot::g,v::l=>E.get t=v∧BZ P E H r g l
 | .cell p t::r,.blk j e _::g,v::l=>(∃vs agg by_ z,pick H j=some (bH (E.get p) e vs)∧dR P t=some (agg,vs.length,by_,z)∧(agg||Nat.beq vs.length 1)=true∧v=valOf agg vs)∧BZ P E H r g l
 | _,_,_=>False
theorem Di{P:Program}{E:Env}{H:List aG}{t e ty:TypeId}{p v:Value}{vs:List Value}{agg:Bool}{by_:Nat}{z:Value}(j:Nat)(hp:pick H j=some (bH p e vs))(hE:E.get t=p)(ht:dR P ty=some (agg,vs.length,by_,z))(h1:(agg||Nat.beq vs.length 1)=true)(hv:v=valOf agg vs) :
  ∃vs agg by_ z,pick H j=some (bH (E.get t) e vs)∧dR P ty=some (agg,vs.length,by_,z)∧(agg||Nat.beq vs.length 1)=true∧v=valOf agg vs:=⟨vs,agg,by_,z,by rw[hE];exact hp,ht,h1,hv⟩
theorem wR{P:Program}{μ:Md}{n:Nat}{E:Env}{a:Act}(ag:Ag μ n E a){H:List aG}{s:St}(hs:Holds s H):∀(rs:List ResultVar) (gs:List FA) (l:List Value),BZ P E H rs gs l →
  (rs.mapM (m:=Sem) λ| .tmp t=>pure (a.tmps.getD t undef) | .cell p t=>do loadVar t (←asAddr (a.tmps.getD p undef))).run P s.w=.ok l s.w
 | [],[],l,h=>by simp only[BZ] at h;subst h;rfl
 | .tmp t::r,.slot::g,v::l,h=>by
  obtain⟨rfl,h⟩:=h
  have ih:=wR ag hs r g l h
  simp only[List.mapM_cons,Sem.run_bind,Sem.run_pure,Result.andThen_ok]
  rw[ih,ag.get]
  simp
 | .cell p t::r,.blk j e _::g,v::l,h=>by
  obtain⟨⟨vs,agg,by_,z,hj,ht,h1,rfl⟩,h⟩:=h
  have ih:=wR ag hs r g l h
  obtain⟨b,hb0,hb⟩:=hs.q _ (cj hj)
  have BF:=yD (P:=P) ht (w:=s.w) (a:=⟨b,0,none⟩) (cs:=vs) rfl (λe=>by subst e;simpa using h1) (λj u hu=>by rw[oJ,Nat.zero_add];simpa[World.cell?,hb] using hu)
  have hld':(loadVar t ⟨b,0,none⟩).run P s.w=.ok (valOf agg vs) s.w:=by simpa[Instr.loadAt,Instr.sureAddr] using BF
  simp only[List.mapM_cons,Sem.run_bind,Sem.run_pure]
  rw[show a.tmps.getD p undef=.pointer (some ⟨b,0,none⟩) from(ag.get p).trans hb0,show asAddr (.pointer (some ⟨b,0,none⟩))=pure ⟨b,0,none⟩ from rfl]
  simp only[Sem.run_pure,Result.andThen_ok]
  rw[hld']
  simp only[Result.andThen_ok]
  rw[ih]
  simp
 | [],_::_,_,h=>h.elim
 | .tmp _::_,[],_,h=>h.elim
 | .cell .. :: _,[],_,h=>h.elim
 | .tmp _::_,.slot::_,[],h=>h.elim
 | .cell .. :: _,.blk .. :: _,[],h=>h.elim
 | .tmp _::_,.blk .. :: _,_,h=>h.elim
 | .cell .. :: _,.slot::_,_,h=>h.elim
theorem AF{fn:Func}{F:List aG}{cQ:Value→List aG→Prop}{x:Exit}{l:List Value}{L:List aG}(gs:List FA)(js:List (Nat×Bool))(k:Nat)(hp:cQ (one l) L)(hx:x=.ret∨x=.normal)(hr:BZ P E H fn.results.toList gs l)(hj:preO js H=some L)(hF:(j8 js H).drop k=F) :
  QH (Bq P fn (Cc F cQ)) x E H:=λs ok hs=>by
 have h1:=rX js hs (rY hj)
 subst hF
 have h2:(L++(j8 js H).drop k).Sublist (L++j8 js H):=List.Sublist.append (List.Sublist.refl _) (List.drop_sublist ..)
 have h3:Holds s (L++(j8 js H).drop k):=⟨λy hy=>h1.q y (h2.subset hy),λb hb=>h1.own b (by
  obtain⟨y,hy,hby⟩:=List.mem_flatMap.1 hb
  exact List.mem_flatMap.2 ⟨y,h2.subset hy,hby⟩),h1.nd.sublist (vy h2)⟩
 refine⟨E,s,λ_=>rfl,rfl,?_⟩
 have main:∀μ a,Ag μ fn.ntmps E a→∃v,(results fn a.tmps).run P s.w=.ok v s.w∧Cc ((j8 js H).drop k) cQ (.returned v) s.w:=λμ a ag=>by
  refine⟨one l,?_,one l,L,s,rfl,rfl,ok,hp,h3⟩
  have:=wR (P:=P) ag hs _ _ _ hr
  have e:(fn.results.mapM (m:=Sem) λ| .tmp t=>pure (a.tmps.getD t undef) | .cell p t=>do loadVar t (←asAddr (a.tmps.getD p undef))).run P s.w=.ok l.toArray s.w:=by
   rw[Array.mapM_eq_mapM_toList,Sem.run_map,this];rfl
  have e2:(results fn a.tmps).run P s.w=((fn.results.mapM (m:=Sem) λ| .tmp t=>pure (a.tmps.getD t undef) | .cell p t=>do loadVar t (←asAddr (a.tmps.getD p undef))).run P s.w).andThen
    (λvs w=>(pure (if h:vs.size=1 then vs[0] else .tuple vs):Sem Value).run P w):=Sem.run_bind ..
  rw[e2,e]
  simp only[Result.andThen_ok,Sem.run_pure]
  congr 1
  match l with
  | []=>rfl
  | [v]=>rfl
  | v::u::r=>simp[one]
 rcases hx with rfl | rfl <;> exact main
/- ---- joins -/
def GC{X:Type}(EE:X→List (Nat×Value))(HH:X→List aG)(C:X→Prop)(Q:cQ):cQ
 | .normal,E,s=>∃x,C x∧agree (EE x) E∧s.Ok∧Holds s (HH x)
 | e,E,s=>Q e E s
theorem da{X:Type}{c:Code}(EE:X→List (Nat×Value))(HH:X→List aG)(C:X→Prop)(h1:WH P n c (GC EE HH C Q) E H)(h2:∀x,C x→∀j,QH Q .normal ⟨EE x,j⟩ (HH x)):WH P n c Q E H:=λs ok hs μ a ag =>
 wpIn_mono (h1 s ok hs μ a ag) λe a' w' hq=>by
  obtain⟨E',s',ag',rfl,hq⟩:=hq
  cases e with
  | normal =>
   obtain⟨x,hc,hag,ok',hs'⟩:=hq
   exact(h2 x hc E'.get).qa ok' hs' (ag'.trim hag)
  | _=>exact⟨E',s',ag',rfl,hq⟩
theorem bB{X:Type}{EE:X→List (Nat×Value)}{HH:X→List aG}{C:X→Prop}(x:X)(hc:C x)(hE:agree (EE x) E)(hH:kJ H (HH x)):QH (GC EE HH C Q) .normal E H:=λs ok hs=>by
 obtain⟨s',ew,ok',hs'⟩:=hH s ok hs
 exact⟨E,s',λ_=>rfl,ew,x,hc,hE,ok',hs'⟩
theorem Kv{X:Type}{EE:X→List (Nat×Value)}{HH:X→List aG}{C:X→Prop}(h:QH Q .ret E H):QH (GC EE HH C Q) .ret E H:=h
/- ---- loops -/
def Oa{S R:Type}(step:S→Option (Out S R))(k:Nat)(r:R):Out S R→Prop
 | .go s'=>vM step k s'=some r
 | .fin r'=>r'=r
theorem GK{S R:Type}{step:S→Option (Out S R)}{k:Nat}{s:S}{r:R}(h:vM step k s=some r):∃k' o,k=k'+1∧step s=some o∧Oa step k' r o:=by
 cases k with
 | zero=>cases h
 | succ k =>
  simp only[vM] at h
  split at h
  ·cases h
  ·rename_i s' hs;exact⟨k,_,rfl,hs,h⟩
  ·rename_i r' hs;exact⟨k,_,rfl,hs,Option.some.inj h⟩
def NE{S R G:Type}(step:S→Option (Out S R))(r:R)(EE:S→G→List (Nat×Value))(HH:S→G→List aG)(k:Nat)(Q:cQ):cQ
 | .normal,E,s=>∃s' g',vM step k s'=some r∧agree (EE s' g') E∧s.Ok∧Holds s (HH s' g')
 | e,E,s=>Q e E s
theorem P2{S R G:Type}{c:Code}{step:S→Option (Out S R)}{r:R}{N:Nat}{s0:S}(EE:S→G→List (Nat×Value))(HH:S→G→List aG)(g0:G)(hl:vM step N s0=some r)(hE:agree (EE s0 g0) E)(hH:kJ H (HH s0 g0))
  (round:∀k s g o,step s=some o→Oa step k r o→∀j,WH P n c (NE step r EE HH k Q) ⟨EE s g,j⟩ (HH s g)):WH P n (.loop c) Q E H:=by
 refine AU (X:=Nat×S×G) (λx=>vM step x.1 x.2.1=some r) (λx=>EE x.2.1 x.2.2) (λx=>HH x.2.1 x.2.2) (λx=>x.1) (N,s0,g0) hl hE hH ?_
 rintro⟨k,s,g⟩ hI j st ok hs μ a ag
 obtain⟨k',o,rfl,hst,hn⟩:=GK hI
 refine wpIn_mono (round k' s g o hst hn j st ok hs μ a ag) λe a' w' hq=>?_
 obtain⟨E',s',ag',rfl,hq⟩:=hq
 cases e with
 | normal =>
  obtain⟨s1,g1,h1,h2,h3,h4⟩:=hq
  exact⟨E',s',ag',rfl,(k',s1,g1),h1,Nat.lt_succ_self _,h2,h3,h4⟩
 | _=>exact⟨E',s',ag',rfl,hq⟩
theorem Qi{S R G:Type}{step:S→Option (Out S R)}{r:R}{EE:S→G→List (Nat×Value)}{HH:S→G→List aG}{k:Nat}{s':S}(g':G)(h:Oa step k r (.go s'))(hE:agree (EE s' g') E)(hH:kJ H (HH s' g')):QH (NE step r EE HH k Q) .normal E H:=λs ok hs=>by
 obtain⟨s1,ew,ok',hs'⟩:=hH s ok hs
 exact⟨E,s1,λ_=>rfl,ew,s',g',h,hE,ok',hs'⟩
theorem Hm{S R G:Type}{step:S→Option (Out S R)}{r:R}{EE:S→G→List (Nat×Value)}{HH:S→G→List aG}{k:Nat}(h:QH Q .ret E H):QH (NE step r EE HH k Q) .ret E H:=h
theorem su{S R G:Type}{step:S→Option (Out S R)}{r:R}{EE:S→G→List (Nat×Value)}{HH:S→G→List aG}{k i:Nat}(h:QH Q (.exit i) E H):QH (NE step r EE HH k Q) (.exit i) E H:=h
def Ox{S R:Type}(body:Nat→S→Option (Out S R))(rem k:Nat)(r:Out S R):Out S R→Prop
 | .go s'=>qg body rem (k+1) s'=some r
 | .fin r'=>.fin r'=r
def Oy{S R G:Type}(body:Nat→S→Option (Out S R))(r:Out S R)(EE:Nat→S→G→List (Nat×Value))(HH:Nat→S→G→List aG)(rem k:Nat)(Q:cQ):cQ
 | .normal,E,s=>∃s' g',qg body rem (k+1) s'=some r∧agree (EE (k+1) s' g') E∧s.Ok∧Holds s (HH (k+1) s' g')
 | e,E,s=>Q e E s
def OB(Q:cQ):cQ
 | .normal,_,_=>False
 | e,E,s=>Q e E s
theorem N3{S R G:Type}{c:Code}{body:Nat→S→Option (Out S R)}{r:Out S R}{N k0:Nat}{s0:S}(EE:Nat→S→G→List (Nat×Value))(HH:Nat→S→G→List aG)(g0:G)(hl:qg body (N-k0) k0 s0=some r)(hN:k0≤N)(hE:agree (EE k0 s0 g0) E)(hH:kJ H (HH k0 s0 g0))
  (last:∀s g,r=.go s→∀j,WH P n c (OB Q) ⟨EE N s g,j⟩ (HH N s g))
  (round:∀rem k s g o,k0≤k∧k<N→body k s=some o→Ox body rem k r o→∀j,WH P n c (Oy body r EE HH rem k Q) ⟨EE k s g,j⟩ (HH k s g)):WH P n (.loop c) Q E H:=by
 refine AU (X:=Nat×Nat×S×G) (λx=>qg body x.1 x.2.1 x.2.2.1=some r∧x.1+x.2.1=N∧k0≤x.2.1) (λx=>EE x.2.1 x.2.2.1 x.2.2.2) (λx=>HH x.2.1 x.2.2.1 x.2.2.2) (λx=>x.1) (N-k0,k0,s0,g0) ⟨hl,by simp only;omega,Nat.le_refl _⟩ hE hH ?_
 rintro⟨rem,k,s,g⟩ ⟨hI,hk,hk0⟩ j st ok hs μ a ag
 simp only at hI hk hk0
 cases rem with
 | zero =>
  have e:k=N:=by omega
  subst e
  refine wpIn_mono (last s g (Option.some.inj hI).symm j st ok hs μ a ag) λe a' w' hq=>?_
  obtain⟨E',s',ag',rfl,hq⟩:=hq
  cases e with
  | normal=>exact hq.elim
  | _=>exact⟨E',s',ag',rfl,hq⟩
 | succ rem =>
  simp only[qg] at hI
  have hb:∃o,body k s=some o∧Ox body rem k r o:=by
   split at hI
   ·cases hI
   ·rename_i s' h;exact⟨_,h,hI⟩
   ·rename_i r' h;exact⟨_,h,Option.some.inj hI⟩
  obtain⟨o,ho,hn⟩:=hb
  refine wpIn_mono (round rem k s g o ⟨hk0,by omega⟩ ho hn j st ok hs μ a ag) λe a' w' hq=>?_
  obtain⟨E',s',ag',rfl,hq⟩:=hq
  cases e with
  | normal =>
   obtain⟨s1,g1,h1,h2,h3,h4⟩:=hq
   exact⟨E',s',ag',rfl,(rem,k+1,s1,g1),⟨h1,by simp only;omega,by simp only;omega⟩,Nat.lt_succ_self _,h2,h3,h4⟩
  | _=>exact⟨E',s',ag',rfl,hq⟩
theorem Ou{S R G:Type}{body:Nat→S→Option (Out S R)}{r:Out S R}{EE:Nat→S→G→List (Nat×Value)}{HH:Nat→S→G→List aG}{rem k:Nat}{s':S}(g':G)(h:Ox body rem k r (.go s'))(hE:agree (EE (k+1) s' g') E)(hH:kJ H (HH (k+1) s' g')) :
  QH (Oy body r EE HH rem k Q) .normal E H:=λs ok hs=>by
 obtain⟨s1,ew,ok',hs'⟩:=hH s ok hs
 exact⟨E,s1,λ_=>rfl,ew,s',g',h,hE,ok',hs'⟩
theorem fc{S R G:Type}{body:Nat→S→Option (Out S R)}{r:Out S R}{EE:Nat→S→G→List (Nat×Value)}{HH:Nat→S→G→List aG}{rem k:Nat}(h:QH Q .ret E H):QH (Oy body r EE HH rem k Q) .ret E H:=h
theorem bh{i:Nat}(h:QH Q (.exit i) E H):QH (OB Q) (.exit i) E H:=h
theorem iP{k k0 N:Nat}(h:k0≤k∧k<N):decide ((k:Int)<(N:Int))=true:=decide_eq_true (by omega)
theorem iX{N:Nat}:decide ((N:Int)<(N:Int))=false:=decide_eq_false (by omega)
/-- a range that never ends early -/
def Pw{S G:Type}(body:Nat→S→Option S)(r:S)(EE:Nat→S→G→List (Nat×Value))(HH:Nat→S→G→List aG)(rem k:Nat)(Q:cQ):cQ
 | .normal,E,s=>∃s' g',cZ body rem (k+1) s'=some r∧agree (EE (k+1) s' g') E∧s.Ok∧Holds s (HH (k+1) s' g')
 | e,E,s=>Q e E s
theorem wI{S G:Type}{c:Code}{body:Nat→S→Option S}{r:S}{N k0:Nat}{s0:S}(EE:Nat→S→G→List (Nat×Value))(HH:Nat→S→G→List aG)(g0:G)(hl:cZ body (N-k0) k0 s0=some r)(hN:k0≤N)(hE:agree (EE k0 s0 g0) E)(hH:kJ H (HH k0 s0 g0))
  (last:∀g j,WH P n c (OB Q) ⟨EE N r g,j⟩ (HH N r g))
  (round:∀rem k s g s',k0≤k∧k<N→body k s=some s'→cZ body rem (k+1) s'=some r→∀j,WH P n c (Pw body r EE HH rem k Q) ⟨EE k s g,j⟩ (HH k s g)):WH P n (.loop c) Q E H:=by
 refine AU (X:=Nat×Nat×S×G) (λx=>cZ body x.1 x.2.1 x.2.2.1=some r∧x.1+x.2.1=N∧k0≤x.2.1) (λx=>EE x.2.1 x.2.2.1 x.2.2.2) (λx=>HH x.2.1 x.2.2.1 x.2.2.2) (λx=>x.1) (N-k0,k0,s0,g0) ⟨hl,by simp only;omega,Nat.le_refl _⟩ hE hH ?_
 rintro⟨rem,k,s,g⟩ ⟨hI,hk,hk0⟩ j st ok hs μ a ag
 simp only at hI hk hk0
 cases rem with
 | zero =>
  have e:k=N:=by omega
  subst e
  cases hI
  refine wpIn_mono (last g j st ok hs μ a ag) λe a' w' hq=>?_
  obtain⟨E',s',ag',rfl,hq⟩:=hq
  cases e with
  | normal=>exact hq.elim
  | _=>exact⟨E',s',ag',rfl,hq⟩
 | succ rem =>
  simp only[cZ] at hI
  split at hI
  ·cases hI
  ·rename_i s' hb
   refine wpIn_mono (round rem k s g s' ⟨hk0,by omega⟩ hb hI j st ok hs μ a ag) λe a' w' hq=>?_
   obtain⟨E',s1,ag',rfl,hq⟩:=hq
   cases e with
   | normal =>
    obtain⟨s2,g1,h1,h2,h3,h4⟩:=hq
    exact⟨E',s1,ag',rfl,(rem,k+1,s2,g1),⟨h1,by simp only;omega,by simp only;omega⟩,Nat.lt_succ_self _,h2,h3,h4⟩
   | _=>exact⟨E',s1,ag',rfl,hq⟩
theorem Ow{S G:Type}{body:Nat→S→Option S}{r:S}{EE:Nat→S→G→List (Nat×Value)}{HH:Nat→S→G→List aG}{rem k:Nat}{s':S}(g':G)(h:cZ body rem (k+1) s'=some r)(hE:agree (EE (k+1) s' g') E)(hH:kJ H (HH (k+1) s' g')) :
  QH (Pw body r EE HH rem k Q) .normal E H:=λs ok hs=>by
 obtain⟨s1,ew,ok',hs'⟩:=hH s ok hs
 exact⟨E,s1,λ_=>rfl,ew,s',g',h,hE,ok',hs'⟩
theorem jP{k k0:Nat}{z:Int}(h:k0≤k∧k<max k0 z.toNat):decide ((k:Int)<z)=true:=decide_eq_true (by omega)
theorem jO{k0:Nat}{z:Int}:decide (((max k0 z.toNat:Nat):Int)<z)=false:=decide_eq_false (by omega)
theorem CX{k k0:Nat}{z:Int}(h:k0≤k∧k<max k0 (z+1).toNat):decide ((k:Int)≤z)=true:=decide_eq_true (by omega)
theorem CW{k0:Nat}{z:Int}:decide (((max k0 (z+1).toNat:Nat):Int)≤z)=false:=decide_eq_false (by omega)
/-- heap to heap: what is wanted is taken out, k items beside it are forgotten -/
theorem QX{js:List (Nat×Bool)}{k:Nat}{L:List aG}(hj:preO js H=some L)(hF:(j8 js H).drop k=F):kJ H (L++F):=λs ok hs=>⟨s,rfl,ok,by
  have h1:=rX js hs (rY hj)
  subst hF
  have h2:(L++(j8 js H).drop k).Sublist (L++j8 js H):=List.Sublist.append (List.Sublist.refl _) (List.drop_sublist ..)
  refine⟨λy hy=>h1.q y (h2.subset hy),λb hb=>h1.own b ?_,h1.nd.sublist ?_⟩
  ·obtain⟨y,hy,hby⟩:=List.mem_flatMap.1 hb
   exact List.mem_flatMap.2 ⟨y,h2.subset hy,hby⟩
  ·exact vy h2⟩
theorem Qn{js:List (Nat×Bool)}{k:Nat}{L B:List aG}(hj:preO js H=some (L++B))(hF:(j8 js H).drop k=F):kJ H (L++(B++F)):=by
 rw[←List.append_assoc];exact QX hj hF
theorem LD{l:List (Nat×Value)}(h:(l.map (·.1)).map E.get=l.map (·.2)):agree l E:=zT h
/-- a slot's value, spelt anew -/
theorem Qp{ops:sH}{i t:Nat}{b c:Bool}(hb:b=c)(h:E.get t=.bool b)(g:WI P n ops i Q (E.put t (.bool c)) H):WI P n ops i Q E H:=λs ok hs μ act ag=>by
 refine g s ok hs μ act (ag.same λu=>?_)
 rw[Env.get_put]
 split
 ·rename_i hu;subst hu;rw[h,hb]
 ·rfl
def Q6(T:wc)(E:Env)(o:Oper):Option Value:=wQ T E o
/-- An operation that only computes, its value spelt anew. -/
theorem mV{T:wc}{ops:sH}{i:Nat}(hT:T.ok P=true){v v':Value}(e:v=v')(h:dec n ops E i (Q6 T)=some v)(g:WI P n ops (i+1) Q (E.putO (eX ops i) v') H):WI P n ops i Q E H:=by
 subst e
 exact qz h (λo ho s _ _=>sf hT ho s.w) g
def PS(P:Program)(n:Nat)(ops:sH)(E:Env)(i:Nat)(w:World):Option (Result Next):=dec n ops E i (λE o=>some ((execOp E.ev o).run P w))
/-- An operation that the kernel runs by itself, in whatever world. -/
theorem bO{ops:sH}{i:Nat}{v:Value}(h:∀w,PS P n ops E i w=some (.ok (.value v) w))(g:WI P n ops (i+1) Q (E.putO (eX ops i) v) H):WI P n ops i Q E H:=by
 obtain⟨o,h1,h2,h3,h4,h5⟩:=re (h default)
 rw[h5] at g
 refine AW (X:=Unit) (C:=λ_=>True) (V:=λ_=>v) (H':=λ_=>H) h1 h2 h3 (λs ok hs=>⟨(),s,?_,trivial,ok,hs⟩) (λ_ _=>g)
 obtain⟨o',h1',_,_,h4',_⟩:=re (h s.w)
 rw[h1] at h1'
 cases h1'
 exact Option.some.inj h4'
def Pn(E:Env)(o:Oper):Option (Bool×Value×Value) :=
 match o.op with
 | .call c=>match c.callee,c.args.toList with
  | .builtin .max,[x,y]=>some (true,E.ev x,E.ev y)
  | .builtin .min,[x,y]=>some (false,E.ev x,E.ev y)
  | _,_=>none
 | _=>none
theorem Dl{o:Oper}{m:Bool}{k:IntKind}{x y z:Int}{w:World}(h:Pn E o=some (m,.int k x,.int k y))(hz:z=(match m with | true=>if y>x then y else x | false=>if y<x then y else x)):(execOp E.ev o).run P w=.ok (.value (.int k z)) w:=by
 unfold Pn at h
 split at h
 ·rename_i c hop
  split at h
  ·rename_i x' y' hc ha
   simp only[Option.some.injEq,Prod.mk.injEq] at h
   obtain⟨rfl,hx,hy⟩:=h
   obtain⟨callee,args,argTypes⟩:=c
   simp only at hc ha
   have ha':args=#[x',y']:=by rw[←Array.toArray_toList (xs:=args),ha]
   subst ha';subst hc;subst hz
   unfold execOp
   rw[hop]
   simp[resolve,invoke,builtin,hx,hy,Builtin.max_,Builtin.max2]
  ·rename_i x' y' hc ha
   simp only[Option.some.injEq,Prod.mk.injEq] at h
   obtain⟨rfl,hx,hy⟩:=h
   obtain⟨callee,args,argTypes⟩:=c
   simp only at hc ha
   have ha':args=#[x',y']:=by rw[←Array.toArray_toList (xs:=args),ha]
   subst ha';subst hc;subst hz
   unfold execOp
   rw[hop]
   simp[resolve,invoke,builtin,hx,hy,Builtin.min_,Builtin.min2]
  ·cases h
 ·cases h
theorem Nm{ops:sH}{i:Nat}{x y z:Int}(hz:some (max x y)=some z)(h:dec n ops E i Pn=some (true,.int .i64 x,.int .i64 y))(g:WI P n ops (i+1) Q (E.putO (eX ops i) (.int .i64 z)) H):WI P n ops i Q E H :=
 qz h (λo ho s _ _=>Dl ho (by cases hz;simp only;omega)) g
theorem Nn{ops:sH}{i:Nat}{x y z:Int}(hz:some (min x y)=some z)(h:dec n ops E i Pn=some (false,.int .i64 x,.int .i64 y))(g:WI P n ops (i+1) Q (E.putO (eX ops i) (.int .i64 z)) H):WI P n ops i Q E H :=
 qz h (λo ho s _ _=>Dl ho (by cases hz;simp only;omega)) g
/-- an element of an array of numbers -/
def OH(P:Program)(t:TypeId):Option (Nat×TypeId):=match P.underlying t with | some (.array n e)=>some (n,e) | _=>none
def NX(E:Env)(o:Oper):Option (TypeId×Value×Value):=match o.op with | .index t x y=>some (t,E.ev x,E.ev y) | _=>none
theorem OM{ops:sH}{i:Nat}{t e:TypeId}{by_ m:Nat}{z:Value}{k:IntKind}{xs:List Int}{x:Int}(hx:xs[m]?=some x)(h:dec n ops E i NX=some (t,.agg (xs.map (Value.int .i64)).toArray,.int k (m:Int)))(ht:OH P t=some (xs.length,e))(he:dR P e=some (false,1,by_,z))
  (g:WI P n ops (i+1) Q (E.putO (eX ops i) (.int .i64 x)) H):WI P n ops i Q E H :=
 qz h (λo ho s _ _=>by
  unfold NX at ho
  split at ho
  ·rename_i t' a b hop
   simp only[Option.some.injEq,Prod.mk.injEq] at ho
   obtain⟨rfl,ha,hb⟩:=ho
   obtain⟨ii,d,hi,hd,hagg,hsz,_,_⟩:=ja he
   have hu:P.underlying t'=some (.array xs.length e):=by
    unfold OH at ht
    split at ht
    ·rename_i n' e' hu;cases ht;exact hu
    ·cases ht
   have hlt:=(List.getElem?_eq_some_iff.1 hx).1
   have hs:(Go.sizeOf e).run P s.w=.ok 1 s.w:=by simp[Go.sizeOf,typeInfo,hi,hsz]
   have hag:(isAgg e).run P s.w=.ok false s.w:=by rw[zF hd,hagg]
   unfold execOp
   rw[hop]
   refine eA ?_
   rw[ha,hb]
   have hc:((xs.map (Value.int .i64)).toArray)[m]?=some (.int .i64 x):=by simp[hx]
   have hi2:(0:Int)≤(m:Int)∧((m:Nat):Int)<((xs.length:Nat):Int):=by omega
   simp[Instr.index,asIntOf,run_underlying hu,hs,part,hag,hlt]
   exact(List.getElem?_eq_some_iff.1 hx).2
  ·cases ho) g
/-- a slice beside nil -/
def QS(E:Env)(o:Oper):Option (Bool×TypeId×Value) :=
 match o.op with
 | .binOp .eql t x y _=>match E.ev y with | .slice none _ _=>some (true,t,E.ev x) | _=>none
 | .binOp .neq t x y _=>match E.ev y with | .slice none _ _=>some (false,t,E.ev x) | _=>none
 | _=>none
theorem zE{t e:TypeId}(ht:rz P t=some e)(A:Option Addr)(N c a b:Nat)(w:World):(Op.equal t (.slice A N c) (.slice none a b)).run P w=.ok A.isNone w:=by
 have hu:=lK ht
 have e:Op.equal t (.slice A N c) (.slice none a b)=Op.equalIn (Nat.pred Op.maxDepth+1) t (.slice A N c) (.slice none a b):=rfl
 rw[e,Op.equalIn]
 cases A <;> simp[run_underlying hu]
theorem OP{α:Type}{kd:Kd α}{ops:sH}{i:Nat}{t e:TypeId}{v:Value}{xs:List α}{b:Bool}(j:Nat)(hp:pick H j=some (rm kd v xs))(h:dec n ops E i QS=some (b,t,v))(ht:rz P t=some e)
  (g1:(∃c,v=.slice none 0 c)→xs=[]→WI P n ops (i+1) Q (E.putO (eX ops i) (.bool b)) H) (g2:WI P n ops (i+1) Q (E.putO (eX ops i) (.bool !b)) H):WI P n ops i Q E H:=λs ok hs=>by
 obtain⟨A,c,rfl,_,_,_,hq⟩:=hs.q _ (cj hp)
 have key:WI P n ops (i+1) Q (E.putO (eX ops i) (.bool (if A.isNone then b else !b))) H:=by
  cases A with
  | none =>
   have hx:xs=[]:=by
    rcases hq with h | ⟨_,_,_,_,_,_,h,_⟩
    ·exact h
    ·cases h
   subst hx
   exact g1 ⟨c,rfl⟩ rfl
  | some a=>exact g2
 refine qz h (λo ho s _ _=>?_) key s ok hs
 unfold QS at ho
 split at ho
 ·rename_i t' x y yt hop
  split at ho
  ·rename_i hy
   simp only[Option.some.injEq,Prod.mk.injEq] at ho
   obtain⟨rfl,rfl,hx⟩:=ho
   unfold execOp
   rw[hop]
   refine eA ?_
   simp only[hx,hy]
   cases A <;> simp[eqGuard,Go.binOp,zE ht]
  ·cases ho
 ·rename_i t' x y yt hop
  split at ho
  ·rename_i hy
   simp only[Option.some.injEq,Prod.mk.injEq] at ho
   obtain⟨rfl,rfl,hx⟩:=ho
   unfold execOp
   rw[hop]
   refine eA ?_
   simp only[hx,hy]
   cases A <;> simp[eqGuard,Go.binOp,zE ht]
  ·cases ho
 ·cases ho
theorem WI.hd{ops:sH}{i:Nat}{x y:aG}(e:x=y)(g:WI P n ops i Q E (y::H)):WI P n ops i Q E (x::H):=e▸g
/-- an item is frozen in its place -/
theorem bF{α:Type}{kd:Kd α}{e:TypeId}{v:Value}{xs:List α}{H:List aG}(j:Nat)(hp:pick H j=some (bE kd e v xs)):kJ H (rm kd v xs::ct H j):=λs ok hs=>kJ.frz s ok (Holds.out hs hp)
theorem b9{v:Value}{N:Nat}(h:wJ H v N):∀s,Holds s H→v.oneCell'=true:=λs hs=>by
 obtain⟨A,c,hv,_⟩:=h s hs
 rw[hv];rfl
theorem oN:∀s,Holds s H→∀u∈([]:List Value),u.oneCell'=true:=λ_ _ _ h=>nomatch h
theorem oC{c:Value}{cs:List Value}(h:∀s,Holds s H→c.oneCell'=true)(t:∀s,Holds s H→∀u∈cs,u.oneCell'=true):∀s,Holds s H→∀u∈c::cs,u.oneCell'=true:=λs hs u hu=>by
 rcases List.mem_cons.1 hu with rfl | hu
 ·exact h s hs
 ·exact t s hs u hu
theorem dP{α:Type}{kd:Kd α}:∀s,Holds s H→c8 kd s [] []:=λ_ _=>rfl
theorem cX{α:Type}{kd:Kd α}{x:α}{g:kd.G}{xs:List α}{cs:List Value}(hi:∀s,Holds s H→∀a∈kd.items x g,a.q s)(hr:∀s,Holds s H→c8 kd s xs cs):∀s,Holds s H→c8 kd s (x::xs) (kd.cells x g++cs):=λs hs =>
 ⟨kd.cells x g,cs,rfl,⟨g,rfl,hi s hs⟩,hr s hs⟩
theorem ck{α:Type}{xs:List α}{k:Nat}{x:α}(h:xs[k]?=some x):k<xs.length:=(List.getElem?_eq_some_iff.1 h).1
theorem Pt:Pv none 0:=rfl
theorem GI{k:IntKind}{l:Int}:Pv (some (.int k l)) l:=⟨k,rfl⟩
theorem N4{N:Nat}:Pq none (N:Int) N:=rfl
theorem Ig{k:IntKind}{h:Int}{N:Nat}:Pq (some (.int k h)) h N:=⟨k,rfl⟩
theorem vH{a b c:Nat}(h:some (og a b)=some c):mT .add .u64 (a:Int) (b:Int)=some (c:Int):=by cases h;exact OR
theorem Bt{a b c:Nat}(h:some (yY a b)=some c):mT .sub .u64 (a:Int) (b:Int)=some (c:Int):=by cases h;exact OV
theorem Bp{a b c:Nat}(h:some (xD a b)=some c):mT .mul .u64 (a:Int) (b:Int)=some (c:Int):=by cases h;exact OT
theorem Bo{a b c:Nat}(h:some (xp a b)=some c):mT .and .u64 (a:Int) (b:Int)=some (c:Int):=by cases h;exact OS
theorem PT{a b c:Nat}(h:some (Od a b)=some c):mT .or .u64 (a:Int) (b:Int)=some (c:Int):=by cases h;exact Qq
theorem Fq{a:Int}{c:Nat}(h:some (sE a)=some c):IntKind.u64.wrap a=(c:Int):=by cases h;exact Rl
theorem Pk{a c:Int}(h:some (KQ a)=some c):IntKind.i64.wrap a=c:=by cases h;exact Rj
theorem bA{k k0 N:Nat}(h:k0≤k∧k<N)(hN:N<9223372036854775807):mT .add .i64 (k:Int) ((1:Nat):Int)=some ((k+1:Nat):Int):=cC (by unfold ee Ie;rw[if_pos (by omega)];rfl)
theorem bJ{n:Nat}{u:Unit}(h:nN n=some u):n<9223372036854775807:=by unfold nN at h;split at h;assumption;cases h
theorem bl{α:Type}{kd:Kd α}{v:Value}{xs:List α}(j:Nat)(hp:pick H j=some (rm kd v xs)):∀s,Holds s H→xs.length<9223372036854775807:=λs hs=>by
 obtain⟨A,c,_,_,_,h,_⟩:=hs.q _ (cj hp);omega
theorem fK{α:Type}{kd:Kd α}{e:TypeId}{v:Value}{xs:List α}(j:Nat)(hp:pick H j=some (bE kd e v xs)):∀s,Holds s H→xs.length<9223372036854775807:=λs hs=>by
 obtain⟨A,c,_,_,_,h,_⟩:=hs.q _ (cj hp);omega
theorem bf{cd:Code}{q:Prop}(hq:∀s,Holds s H→q)(g:q→WH P n cd Q E H):WH P n cd Q E H:=λs ok hs=>g (hq s hs) s ok hs
theorem fS{α:Type}{a b:α}(h:some a=some b):b=a:=(Option.some.inj h).symm
/-- A test whose outcome is known. -/
theorem dJ{c:Operand}{x y:Code}{b:Bool}(hb:b=true)(hc:E.ev c=.bool b)(ht:WH P n x Q E H):WH P n (.cond c x y) Q E H:=Eb b hc (λ_=>ht) (λh=>by rw[hb] at h;cases h)
theorem cY{c:Operand}{x y:Code}{b:Bool}(hb:b=false)(hc:E.ev c=.bool b)(ht:WH P n y Q E H):WH P n (.cond c x y) Q E H:=Eb b hc (λh=>by rw[hb] at h;cases h) (λ_=>ht)
end
end Gw
