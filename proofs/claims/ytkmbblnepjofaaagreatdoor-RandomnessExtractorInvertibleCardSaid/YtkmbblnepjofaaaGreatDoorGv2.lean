/- Own words: the rules of single operations, over the words of Gv1: a region's list, what only computes, calls. -/
import Derived.Test.YtkmbblnepjofaaaGreatDoorGv1
set_option linter.unusedVariables false
namespace Gv
open Go

/- ---- what the table of types says -/
def Ak:TypeDesc→Bool
  | .struct _=>true
  | .array _ _=>true
  | _=>false
def cM (P:Program) (t:TypeId):Option (Bool × Nat × Nat × Value) :=
  match P.info? t,P.underlying t with
  | some i,some d=>match i.zero with | some z=>some (Ak d,i.size,i.bytes,z) | none=>none
  | _,_=>none
def D6 (P:Program) (t:TypeId):Option (List Nat) :=
  match P.underlying t with
  | some (.struct fs)=>if fs.toList.all (fun f=>match P.info? f.type with | some i=>Nat.ble 1 i.size | none=>false) then some (fs.toList.map (·.offset)) else none
  | _=>none
def Cj (P:Program) (t:TypeId):Option IntKind:=match P.underlying t with | some (.int k)=>some k | _=>none
def oj (P:Program) (t:TypeId):Option Nat:=match P.underlying t with | some (.slice e)=>some e | _=>none

structure qD where
  flds:List (Nat × List Nat)
  ints:List (Nat × IntKind)
  sls:List (Nat × Nat)
def qD.ok (P:Program) (T:qD):Bool :=
  T.flds.all (fun p=>D6 P p.1 == some p.2) && T.ints.all (fun p=>Cj P p.1 == some p.2) && T.sls.all (fun p=>oj P p.1 == some p.2)
def yh {α:Type}:List (Nat × α)→Nat→Option α
  | [],_=>none
  | p :: r,t=>match Nat.beq p.1 t with | true=>some p.2 | false=>yh r t
theorem tT {α:Type} {l:List (Nat × α)} {t:Nat} {x:α} (h:yh l t=some x):(t,x) ∈ l:=by
  induction l with
  | nil=>cases h
  | cons p r ih =>
    unfold yh at h
    split at h
    · rename_i hb;cases h;rw [← Nat.eq_of_beq_eq_true hb];exact List.mem_cons_self ..
    · exact List.mem_cons_of_mem _ (ih h)
theorem qD.fld {P:Program} {T:qD} (h:T.ok P=true) {t:Nat} {l:List Nat} (e:yh T.flds t=some l):D6 P t=some l:=by
  simp only [qD.ok,Bool.and_eq_true,List.all_eq_true,beq_iff_eq] at h
  exact h.1.1 _ (tT e)
theorem qD.int {P:Program} {T:qD} (h:T.ok P=true) {t:Nat} {l:IntKind} (e:yh T.ints t=some l):Cj P t=some l:=by
  simp only [qD.ok,Bool.and_eq_true,List.all_eq_true,beq_iff_eq] at h
  exact h.1.2 _ (tT e)
theorem qD.sl {P:Program} {T:qD} (h:T.ok P=true) {t:Nat} {l:Nat} (e:yh T.sls t=some l):oj P t=some l:=by
  simp only [qD.ok,Bool.and_eq_true,List.all_eq_true,beq_iff_eq] at h
  exact h.2 _ (tT e)

/- ---- what only computes -/
def C4 (op:BinOp) (m n:Int):Option Value :=
  match op with
  | .eql=>some (.bool (m == n))
  | .neq=>some (.bool (m != n))
  | .lss=>some (.bool (decide (m < n)))
  | .leq=>some (.bool (decide (m≤n)))
  | .gtr=>some (.bool (decide (m > n)))
  | .geq=>some (.bool (decide (m ≥ n)))
  | _=>none
def FR (op:BinOp) (k:IntKind) (m n:Int):Option Value :=
  match op with
  | .add=>some (.int k (k.wrap (m+n)))
  | .sub=>some (.int k (k.wrap (m - n)))
  | .mul=>some (.int k (k.wrap (m*n)))
  | _=>C4 op m n
def C2 (op:BinOp) (x y:Value):Option Value :=
  match x,y with
  | .int .i64 m,.int .i64 n=>FR op .i64 m n
  | .int .u64 m,.int .u64 n=>FR op .u64 m n
  | _,_=>none
def re (T:qD) (E:Env) (o:Oper):Option Value :=
  match o.op with
  | .move x=>some (E.ev x)
  | .assign x=>some (E.ev x)
  | .pick c a b=>match E.ev c with | .bool t=>some (match t with | true=>E.ev a | false=>E.ev b) | _=>none
  | .binOp op _ x y _=>C2 op (E.ev x) (E.ev y)
  | .unOp op _ x=>match op,E.ev x with | .not,.bool b=>some (.bool (!b)) | _,_=>none
  | .extract x i=>match E.ev x with | .tuple vs=>vs[i]? | _=>none
  | .nilCheck x=>match E.ev x with | .pointer (some a)=>some (.pointer (some a)) | _=>none
  | .makeFunc fn first captured=>some (.func fn (first.map E.ev) (captured.map E.ev))
  | .fieldAddr t x f=>match E.ev x,yh T.flds t with
    | .pointer (some a),some l=>match l[f]? with | some off=>some (.pointer (some (a.add off))) | none=>none
    | _,_=>none
  | .convert st t x=>match E.ev x,yh T.ints t,yh T.ints st with
    | .int _ n,some k,some _=>some (.int k (k.wrap n))
    | _,_,_=>none
  | .call c=>match c.callee,c.args.toList,c.argTypes.toList with
    | .builtin .len,[x],[t]=>match E.ev x,yh T.sls t with
      | .slice _ n _,some _=>some (.int .i64 n)
      | _,_=>none
    | _,_,_=>none
  | _=>none

theorem zI {P:Program} {op:BinOp} {t:TypeId} {x y:Operand} {a b v:Value} (h:C2 op a b=some v) (w:World) :
    (do eqGuard op t x y a b;binOp op t a b:Sem Value).run P w=.ok v w:=by
  unfold C2 at h
  split at h
  · cases op <;> simp only [FR,C4] at h <;> first | (cases h;done) | (cases h;simp [eqGuard,Go.binOp,Op.intArith,Op.intCmp])
  · cases op <;> simp only [FR,C4] at h <;> first | (cases h;done) | (cases h;simp [eqGuard,Go.binOp,Op.intArith,Op.intCmp])
  · cases h

theorem c8 {P:Program} {s:Sem Value} {v:Value} {w:World} (h:s.run P w=.ok v w):(do pure (Next.value (← s)):Sem Next).run P w=.ok (.value v) w:=by
  simp [h]

theorem nL {P:Program} {T:qD} (ht:T.ok P=true) {E:Env} {o:Oper} {v:Value} (h:re T E o=some v) (w:World) :
    (execOp E.ev o).run P w=.ok (.value v) w:=by
  obtain ⟨dst,op,type,pos,after,guard⟩:=o
  cases op <;> simp only [re] at h <;> try (cases h;done)
  case move x=>cases h;rfl
  case assign x=>cases h;rfl
  case pick c a b =>
    split at h
    · rename_i t hc
      cases h
      cases t <;> simp [execOp,hc,asBool]
    · cases h
  case binOp op t x y yt=>exact c8 (zI h w)
  case unOp op t x =>
    split at h
    · rename_i b hx;cases h;simp [execOp,Op.unary,hx]
    · cases h
  case extract x i =>
    split at h
    · rename_i vs hx;simp [execOp,Instr.extract,hx,h]
    · cases h
  case nilCheck x =>
    split at h
    · rename_i a hx;cases h;simp [execOp,hx]
    · cases h
  case makeFunc fn first captured=>cases h;simp [execOp,Instr.makeFunc]
  case fieldAddr t x f =>
    split at h
    · rename_i a l hx hl
      split at h
      · rename_i off ho
        cases h
        have:=T.fld ht hl
        unfold D6 at this
        split at this
        · rename_i fs hu
          split at this
          · rename_i hall
            cases this
            rw [List.getElem?_map,Option.map_eq_some_iff] at ho
            obtain ⟨fd,hfd,rfl⟩:=ho
            have hm:fd ∈ fs.toList:=List.mem_of_getElem? hfd
            have hs:=List.all_eq_true.1 hall fd hm
            have hfd':fs[f]?=some fd:=by simpa using hfd
            split at hs
            · rename_i i hi
              have h1:1≤i.size:=Nat.le_of_ble_eq_true hs
              have h0:¬ i.size=0:=by omega
              simp [execOp,Instr.fieldAt,run_underlying hu,hfd',Instr.sureAddr,hx,fieldPlace,Go.sizeOf,typeInfo,hi,h0]
            · cases hs
          · cases this
        · cases this
      · cases h
    · cases h
  case convert st t x =>
    split at h
    · rename_i k0 n k ks hx hk hks
      cases h
      have:=T.int ht hk
      unfold Cj at this
      split at this
      · rename_i k' hu
        cases this
        have:=T.int ht hks
        unfold Cj at this
        split at this
        · rename_i k'' hs
          cases this
          refine c8 ?_
          unfold Go.convert
          simp [run_underlying hu,run_underlying hs,hx,Conv.intToInt]
        · cases this
      · cases this
    · cases h
  case call c =>
    split at h
    · rename_i x t hc ha hty
      split at h
      · rename_i ad n cap e hx he
        cases h
        have:=T.sl ht he
        unfold oj at this
        split at this
        · rename_i e' hu
          cases this
          obtain ⟨callee,args,argTypes⟩:=c
          simp only at hc ha hty
          subst hc
          have ha':args=#[x]:=by rw [← Array.toArray_toList (xs:=args),ha]
          have ht':argTypes=#[t]:=by rw [← Array.toArray_toList (xs:=argTypes),hty]
          subst ha';subst ht'
          simp [execOp,resolve,invoke,builtin,Builtin.len_,run_underlying hu,hx,goInt]
        · cases this
      · cases h
    · cases h

/- ---- a region's list of operations -/
def n3 (ops:Array Oper) (E:Env) (o:Oper):Bool :=
  match o.guard with
  | none=>true
  | some (j,want)=>match (ops[j]?).bind (·.dst) with
    | some t=>match E.get t with | .bool b=>(match want with | true=>b | false=>!b) | _=>false
    | none=>false

theorem ln {n:Nat} {E:Env} {a:Act} (ag:Ag n E a) (ops:Array Oper) (o:Oper):Region.wanted o (yielded ops a.tmps)=n3 ops E o:=by
  obtain ⟨dst,op,type,pos,after,guard⟩:=o
  unfold Region.wanted n3
  cases guard with
  | none=>rfl
  | some g =>
    obtain ⟨j,want⟩:=g
    simp only []
    unfold yielded
    cases hd:(ops[j]?).bind (·.dst) with
    | none=>simp
    | some t =>
      have hget:=ag.get t
      simp only [Option.bind_some]
      cases ht:a.tmps[t]? with
      | none =>
        have:E.get t=undef:=by rw [← hget];simp [ht]
        rw [this]
        simp [undef]
      | some v =>
        have:E.get t=v:=by rw [← hget];simp [ht]
        rw [this]
        cases v <;> simp
        rename_i b
        cases b <;> cases want <;> rfl

/-- A region's operations, and the list of them that is walked. -/
structure pp where
  a:Array Oper
  l:List Oper
/-- From operation i on, in the text's order. -/
def WI (P:Program) (n:Nat) (ops:pp) (i:Nat) (Q:b7) (E:Env) (H:List aC):Prop :=
  ∀ s,s.Ok→Holds s H→∀ a,Ag n E a→wpList P ops.a (Qa n Q) (ops.l.drop i) a s.w

section
variable {P:Program} {n:Nat} {Q:b7} {E:Env} {H:List aC} {ops:pp} {i:Nat}

theorem rm {ar:Array Oper} {id:Nat} (h:WI P n ⟨ar,ar.toList⟩ 0 Q E H):WH P n (.region id ar false) Q E H:=fun s ok hs a ag =>
  wp_region_list (h s ok hs a ag)

theorem WI.ent {H':List aC} (e:gI H H') (h:WI P n ops i Q E H'):WI P n ops i Q E H:=fun s ok hs=>by
  obtain ⟨s',ew,ok',h'⟩:=e s ok hs
  rw [← ew];exact h s' ok' h'

def opAt (ops:pp) (i:Nat):Option Oper:=ops.l[i]?

theorem rn (hi:opAt ops i=none) (h:QH Q .normal E H):WI P n ops i Q E H:=fun s ok hs a ag=>by
  have:ops.l.drop i=[]:=List.drop_eq_nil_of_le (List.getElem?_eq_none_iff.1 hi)
  rw [this]
  exact h.qa ok hs ag

theorem m9 {o:Oper} (ho:opAt ops i=some o):ops.l.drop i=o :: ops.l.drop (i+1):=by
  have hlt:=(List.getElem?_eq_some_iff.1 ho).1
  rw [List.drop_eq_getElem_cons hlt,(List.getElem?_eq_some_iff.1 ho).2]

/-- An operation that is not wanted. -/
theorem Cp {o:Oper} (ho:opAt ops i=some o) (hd:okO n o.dst=true) (hg:n3 ops.a E o=false) (h:WI P n ops (i+1) Q (E.putO o.dst undef) H):WI P n ops i Q E H:=fun s ok hs a ag=>by
  rw [m9 ho]
  unfold wpList
  rw [ln ag,hg]
  exact h s ok hs _ (ag.putO hd _)

/-- The general step: the operation yields a value in some state that the next walk takes. -/
theorem uH {o:Oper} {X:Type} {C:X→Prop} {V:X→Value} {H':X→List aC} (ho:opAt ops i=some o) (hd:okO n o.dst=true) (hg:n3 ops.a E o=true)
    (hr:∀ s,s.Ok→Holds s H→∃ x s',(execOp E.ev o).run P s.w=.ok (.value (V x)) s'.w∧C x∧s'.Ok∧Holds s' (H' x))
    (h:∀ x,C x→WI P n ops (i+1) Q (E.putO o.dst (V x)) (H' x)):WI P n ops i Q E H:=fun s ok hs a ag=>by
  rw [m9 ho]
  obtain ⟨x,s',hrun,hc,ok',hs'⟩:=hr s ok hs
  unfold wpList
  rw [ln ag,hg,if_pos rfl]
  refine .inl ?_
  have he:a.eval=E.ev:=funext ag.ev
  unfold Oper.wp
  rw [he,hrun]
  exact h x hc s' ok' hs' _ (ag.putO hd _)
/-- The same for an operation that yields nothing (a store). -/
theorem z3 {o:Oper} {H':List aC} (ho:opAt ops i=some o) (hd:okO n o.dst=true) (hg:n3 ops.a E o=true)
    (hr:∀ s,s.Ok→Holds s H→∃ s',(execOp E.ev o).run P s.w=.ok .skip s'.w∧s'.Ok∧Holds s' H')
    (h:WI P n ops (i+1) Q (E.putO o.dst undef) H'):WI P n ops i Q E H:=fun s ok hs a ag=>by
  rw [m9 ho]
  obtain ⟨s',hrun,ok',hs'⟩:=hr s ok hs
  unfold wpList
  rw [ln ag,hg,if_pos rfl]
  refine .inl ?_
  have he:a.eval=E.ev:=funext ag.ev
  unfold Oper.wp
  rw [he,hrun]
  exact h s' ok' hs' _ (ag.putO hd _)

/-- A call by contract. -/
theorem Co {o:Oper} {f:FuncId} {args:Array Value} {Pre F:List aC} {b7:Value→List aC→Prop} (ho:opAt ops i=some o) (hd:okO n o.dst=true) (hg:n3 ops.a E o=true)
    (hr:∀ w,(execOp E.ev o).run P w=.ok (.enter f args) w) (hspec:F1 P f args Pre b7) (hH:gI H (Pre++F))
    (h:∀ v L,b7 v L→WI P n ops (i+1) Q (E.putO o.dst v) (L++F)):WI P n ops i Q E H:=fun s ok hs a ag=>by
  rw [m9 ho]
  obtain ⟨s0,ew,ok0,hs0⟩:=hH s ok hs
  unfold wpList
  rw [ln ag,hg,if_pos rfl]
  refine .inl ?_
  have he:a.eval=E.ev:=funext ag.ev
  unfold Oper.wp
  rw [he,hr,← ew]
  refine Calls.mono (hspec F s0 ok0 hs0) fun e w' hR=>?_
  obtain ⟨v,L,s',rfl,rfl,ok',hp,hs'⟩:=hR
  exact h v L hp s' ok' hs' _ (ag.putO hd _)

theorem zJ {o:Oper} {c:Call} {f:FuncId} {fn:Func} {first captured:Array Value} {x:Operand} (hop:o.op=.call c) (hc:c.callee=.value x) (hx:E.ev x=.func (.func f) first captured)
    (hf : P.funcs[f]? = some fn) (hb : fn.body.isNone = false) (hn : (fn.name == "runtime.NumGoroutine") = false) (w : World) :
    (execOp E.ev o).run P w=.ok (.enter f (first++c.args.map E.ev++captured)) w:=by
  have hn' : ¬ fn.name = "runtime.NumGoroutine" := by simpa using hn
  have hb':¬ fn.body=none:=by intro e;rw [e] at hb;cases hb
  unfold execOp
  rw [hop]
  simp [resolve,hc,hx,Deferred.ofValue,invoke,callFunc,hf,hb',hn']

/-- Several operations that only compute, at one stroke; what stays alive is spelt. -/
def wq (T:qD) (n:Nat) (ops:pp):Nat→List Oper→Env→Option Env
  | 0,_,E=>some E
  | _+1,[],_=>none
  | k+1,o :: l,E=>match okO n o.dst with
    | false=>none
    | true=>match n3 ops.a E o with
      | true=>match re T E o with | some v=>wq T n ops k l (E.putO o.dst v) | none=>none
      | false=>wq T n ops k l (E.putO o.dst undef)
theorem pX {T:qD} (ht:T.ok P=true):∀ (k i:Nat) (E E':Env),wq T n ops k (ops.l.drop i) E=some E'→WI P n ops (i+k) Q E' H→WI P n ops i Q E H
  | 0,i,E,E',h,g=>by cases h;exact g
  | k+1,i,E,E',h,g=>by
    cases hl:ops.l.drop i with
    | nil=>rw [hl] at h;cases h
    | cons o l =>
      have ho:opAt ops i=some o:=by
        have:=List.getElem?_drop (xs:=ops.l) (i:=i) (j:=0)
        rw [hl] at this;simpa [opAt] using this.symm
      have hl':ops.l.drop (i+1)=l:=by
        have:=m9 ho;rw [hl] at this;exact (List.cons.inj this).2.symm
      rw [hl] at h
      simp only [wq] at h
      have g':WI P n ops (i+1+k) Q E' H:=by rw [show i+1+k=i+(k+1) by omega];exact g
      split at h
      · cases h
      · rename_i hok
        split at h
        · rename_i hw
          split at h
          · rename_i v hv
            rw [← hl'] at h
            exact uH (X:=Unit) (C:=fun _=>True) (V:=fun _=>v) (H':=fun _=>H) ho hok hw (fun s ok hs=>⟨(),s,nL ht hv s.w,trivial,ok,hs⟩)
              (fun _ _=>pX ht k (i+1) _ E' h g')
          · cases h
        · rename_i hw
          rw [← hl'] at h
          exact Cp ho hok hw (pX ht k (i+1) _ E' h g')

theorem tR {l:List (Nat × Value)} {E:Env} (h:(l.map (·.1)).map E.get=l.map (·.2)):agree l E:=by
  induction l with
  | nil=>trivial
  | cons p r ih =>
    simp only [List.map_cons,List.cons.injEq] at h
    exact ⟨h.1,ih h.2⟩

end
end Gv
