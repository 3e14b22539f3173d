/- Own words: the rules of single operations over memory, told by headers as values. -/
import Derived.Test.YtkmbblnepjofaaaGreatDoorGw1
set_option linter.unusedVariables false
namespace Gw
open Go Gv

theorem Holds.new {s:St} {H:List aC} (ok:s.Ok) (hs:Holds s H) {w':World} (hsz:s.w.heap.size < w'.heap.size) (hos:w'.os=s.w.os) (htp:w'.tape=s.w.tape) (hout:w'.output=s.w.output)
    (hold:∀ k,k < s.w.heap.size→w'.heap[k]?=s.w.heap[k]?) {y:aC} (hb:y.bs=[s.w.heap.size] ∨ y.bs=[]) (hq:y.q ⟨w',s.fz⟩):St.Ok ⟨w',s.fz⟩∧Holds ⟨w',s.fz⟩ (y :: H):=by
  refine ⟨fun k hk=>Nat.lt_of_lt_of_le (ok k hk) (Nat.le_of_lt hsz),?_⟩
  have:=Holds.chg (X:=[]) (F:=H) (Y:=[y]) (b:=⟨w',s.fz⟩) ok hs ⟨hos,htp,hout,Nat.le_of_lt hsz,fun k hk _=>hold k hk,fun _ h=>h,fun _ _ _ h=>h⟩
    (fun z hz=>by rw [List.mem_singleton] at hz;subst hz;exact hq)
    (fun k hk=>by
      rcases hb with hb | hb
      · simp only [dN,List.flatMap_cons,hb,List.flatMap_nil,List.append_nil,List.mem_singleton] at hk
        subst hk
        exact ⟨.inr (Nat.le_refl _),hsz,fun hf=>Nat.lt_irrefl _ (ok _ hf)⟩
      · simp [dN,hb] at hk)
    (by rcases hb with hb | hb <;> simp [dN,hb])
  exact this
theorem Holds.same {s:St} {H:List aC} (ok:s.Ok) (hs:Holds s H) {w':World} (hsz:s.w.heap.size≤w'.heap.size) (hos:w'.os=s.w.os) (htp:w'.tape=s.w.tape) (hout:w'.output=s.w.output)
    (hold:∀ k,k < s.w.heap.size→w'.heap[k]?=s.w.heap[k]?):St.Ok ⟨w',s.fz⟩∧Holds ⟨w',s.fz⟩ H :=
  ⟨fun k hk=>Nat.lt_of_lt_of_le (ok k hk) hsz,
   Holds.chg (X:=[]) (F:=H) (Y:=[]) (b:=⟨w',s.fz⟩) ok hs ⟨hos,htp,hout,hsz,fun k hk _=>hold k hk,fun _ h=>h,fun _ _ _ h=>h⟩ (fun _ h=>nomatch h) (fun _ h=>by simp [dN] at h) (by simp [dN])⟩
/-- One item's block alone is written. -/
theorem Holds.upd {s:St} {x:aC} {F:List aC} (ok:s.Ok) (hs:Holds s (x :: F)) {w':World} (hsz:w'.heap.size=s.w.heap.size) (hos:w'.os=s.w.os) (htp:w'.tape=s.w.tape) (hout:w'.output=s.w.output)
    (hold:∀ k,k < s.w.heap.size→k ∉ x.bs→w'.heap[k]?=s.w.heap[k]?) {y:aC} (hb:y.bs=x.bs) (hq:y.q ⟨w',s.fz⟩):St.Ok ⟨w',s.fz⟩∧Holds ⟨w',s.fz⟩ (y :: F):=by
  refine ⟨fun k hk=>by rw [hsz];exact ok k hk,?_⟩
  have hx:dN [x]=x.bs:=by simp [dN]
  have hy:dN [y]=x.bs:=by simp [dN,hb]
  have hnd:x.bs.Nodup:=by have:=hs.nd;simp only [dN,List.flatMap_cons] at this;exact (List.nodup_append.1 this).1
  have hown:∀ k ∈ x.bs,k < s.w.heap.size∧¬ s.fz k:=fun k hk=>hs.own k (by simp only [dN,List.flatMap_cons,List.mem_append];exact .inl hk)
  exact Holds.chg (X:=[x]) (F:=F) (Y:=[y]) (b:=⟨w',s.fz⟩) ok hs ⟨hos,htp,hout,Nat.le_of_eq hsz.symm,fun k hk hn=>hold k hk (by rwa [hx] at hn),fun _ h=>h,fun _ _ _ h=>h⟩
    (fun z hz=>by rw [List.mem_singleton] at hz;subst hz;exact hq)
    (fun k hk=>by rw [hy] at hk;rw [hx];exact ⟨.inl hk,by show k < w'.heap.size;rw [hsz];exact (hown k hk).1,(hown k hk).2⟩) (by rw [hy];exact hnd)
theorem setRow_size (w:World) (g:Nat) (cs:Array Value):(w.setRow g cs).heap.size=w.heap.size:=by simp [World.setRow]
theorem Holds.out {s:St} {H:List aC} {j:Nat} {x:aC} (hs:Holds s H) (hp:pick H j=some x):Holds s (x :: bo H j):=hs.perm (gN H j x hp)

/- ---- one operation -/
def dM (ops:pp) (i:Nat):Option Nat:=match opAt ops i with | some o=>o.dst | none=>none
def dec {β:Type} (n:Nat) (ops:pp) (E:Env) (i:Nat) (f:Env→Oper→Option β):Option β :=
  match opAt ops i with
  | some o=>match okO n o.dst with
    | true=>match n3 ops.a E o with
      | true=>f E o
      | false=>none
    | false=>none
  | none=>none
theorem oy {β:Type} {n:Nat} {ops:pp} {E:Env} {i:Nat} {f:Env→Oper→Option β} {b:β} (h:dec n ops E i f=some b):∃ o,opAt ops i=some o∧okO n o.dst=true∧n3 ops.a E o=true∧f E o=some b∧dM ops i=o.dst:=by
  unfold dec at h
  split at h
  · rename_i o ho
    split at h
    · split at h
      · exact ⟨o,ho,by assumption,by assumption,h,by unfold dM;rw [ho]⟩
      · cases h
    · cases h
  · cases h

section
variable {P:Program} {n:Nat} {Q:b7} {E:Env} {H F:List aC} {ops:pp} {i:Nat}

theorem pO {β:Type} {f:Env→Oper→Option β} {b:β} {X:Type} {C:X→Prop} {V:X→Value} {H':X→List aC} (h:dec n ops E i f=some b)
    (hr:∀ o,f E o=some b→∀ s,s.Ok→Holds s H→∃ x s',(execOp E.ev o).run P s.w=.ok (.value (V x)) s'.w∧C x∧s'.Ok∧Holds s' (H' x))
    (g:∀ x,C x→WI P n ops (i+1) Q (E.putO (dM ops i) (V x)) (H' x)):WI P n ops i Q E H:=by
  obtain ⟨o,h1,h2,h3,h4,h5⟩:=oy h
  rw [h5] at g
  exact uH h1 h2 h3 (hr o h4) g
theorem Ej {β:Type} {f:Env→Oper→Option β} {b:β} {H':List aC} (h:dec n ops E i f=some b)
    (hr:∀ o,f E o=some b→∀ s,s.Ok→Holds s H→∃ s',(execOp E.ev o).run P s.w=.ok .skip s'.w∧s'.Ok∧Holds s' H')
    (g:WI P n ops (i+1) Q (E.putO (dM ops i) undef) H'):WI P n ops i Q E H:=by
  obtain ⟨o,h1,h2,h3,h4,h5⟩:=oy h
  rw [h5] at g
  exact z3 h1 h2 h3 (hr o h4) g
/-- One value, nothing turns. -/
theorem o8 {β:Type} {f:Env→Oper→Option β} {b:β} {v:Value} (h:dec n ops E i f=some b)
    (hr:∀ o,f E o=some b→∀ s,s.Ok→Holds s H→(execOp E.ev o).run P s.w=.ok (.value v) s.w)
    (g:WI P n ops (i+1) Q (E.putO (dM ops i) v) H):WI P n ops i Q E H :=
  pO (X:=Unit) (C:=fun _=>True) (V:=fun _=>v) (H':=fun _=>H) h (fun o ho s ok hs=>⟨(),s,hr o ho s ok hs,trivial,ok,hs⟩) (fun _ _=>g)

/- ---- several that only compute -/
def DY (T:qD) (n:Nat) (ops:pp) (i k:Nat) (E:Env):Env:=match wq T n ops k (ops.l.drop i) E with | some E'=>E' | none=>E
theorem Hj {T:qD} (ht:T.ok P=true) (k:Nat) (h:(wq T n ops k (ops.l.drop i) E).isSome=true) (g:WI P n ops (i+k) Q (DY T n ops i k E) H):WI P n ops i Q E H:=by
  unfold DY at g
  split at g
  · rename_i E' hE;exact pX ht k i E E' hE g
  · rename_i hE;rw [hE] at h;cases h

/- ---- the type's facts -/
theorem fY {t:TypeId} {agg:Bool} {sz by_:Nat} {z:Value} (h:cM P t=some (agg,sz,by_,z)) :
    ∃ i d,P.info? t=some i∧P.underlying t=some d∧Ak d=agg∧i.size=sz∧i.bytes=by_∧i.zero=some z:=by
  unfold cM at h
  split at h
  · rename_i i d hi hd
    split at h
    · rename_i z' hz;cases h;exact ⟨i,d,hi,hd,rfl,rfl,rfl,hz⟩
    · cases h
  · cases h
theorem iL {t e:TypeId} (h:oj P t=some e):P.underlying t=some (.slice e):=by
  unfold oj at h
  split at h
  · cases h;assumption
  · cases h
theorem tI {t:TypeId} {d:TypeDesc} (hd:P.underlying t=some d) (w:World):(isAgg t).run P w=.ok (Ak d) w:=by
  unfold isAgg
  rw [Sem.run_bind,run_underlying hd w]
  cases d <;> rfl
theorem rP {s:Sem Value} {v:Value} {w w':World} (h:s.run P w=.ok v w'):(do pure (Next.value (← s)):Sem Next).run P w=.ok (.value v) w':=by simp [h]

/- ---- slices: header, length, places -/
def ra (H:List aC) (v:Value) (N:Nat):Prop:=∀ s,Holds s H→∃ A c,v=.slice A N c∧(0 < N→A.isSome=true)
theorem aj {α:Type} {kd:Kd α} {v:Value} {xs:List α} (j:Nat) (hp:pick H j=some (nt kd v xs)):ra H v xs.length:=fun s hs=>by
  obtain ⟨A,c,hv,_,_,_,h⟩:=hs.q _ (bp hp)
  refine ⟨A,c,hv,fun h0=>?_⟩
  rcases h with rfl | ⟨b,off,_,_,_,_,rfl,_⟩
  · simp at h0
  · rfl
theorem au {α:Type} {kd:Kd α} {e:TypeId} {v:Value} {xs:List α} (j:Nat) (hp:pick H j=some (bb kd e v xs)):ra H v xs.length:=fun s hs=>by
  obtain ⟨A,c,hv,h1,_,_,h⟩:=hs.q _ (bp hp)
  refine ⟨A,c,hv,fun h0=>?_⟩
  obtain ⟨g,_,_,rfl,_⟩:=h (by omega)
  rfl
def EL (E:Env) (o:Oper):Option (TypeId × Value) :=
  match o.op with
  | .call c=>match c.callee,c.args.toList,c.argTypes.toList with
    | .builtin .len,[x],[t]=>some (t,E.ev x)
    | _,_,_=>none
  | _=>none
theorem aI {t e:TypeId} {v:Value} {N:Nat} (hs:ra H v N) (h:dec n ops E i EL=some (t,v)) (ht:oj P t=some e) (g:WI P n ops (i+1) Q (E.putO (dM ops i) (.int .i64 N)) H):WI P n ops i Q E H :=
  o8 h (fun o ho s ok hs'=>by
    obtain ⟨A,c,hv,_⟩:=hs s hs'
    unfold EL at ho
    split at ho
    · rename_i c hop
      split at ho
      · rename_i x t' hc ha hty
        simp only [Option.some.injEq,Prod.mk.injEq] at ho
        obtain ⟨rfl,hx⟩:=ho
        obtain ⟨callee,args,argTypes⟩:=c
        simp only at hc ha hty
        subst hc
        have ha':args=#[x]:=by rw [← Array.toArray_toList (xs:=args),ha]
        have ht':argTypes=#[t']:=by rw [← Array.toArray_toList (xs:=argTypes),hty]
        subst ha';subst ht'
        simp [execOp,hop,resolve,invoke,builtin,Builtin.len_,run_underlying (iL ht),hx,hv,goInt]
      · cases ho
    · cases ho) g
/-- The address of what lies o cells behind the head of a slice. -/
def cw (v:Value) (o:Nat):Addr:=match v with | .slice A _ _=>(A.getD default).add o | _=>default
def G1 (E:Env) (o:Oper):Option (TypeId × Value × Value) :=
  match o.op with
  | .indexAddr t x y=>some (t,E.ev x,E.ev y)
  | _=>none
theorem run_indexAt {t e:TypeId} {agg:Bool} {sz by_:Nat} {z:Value} (ht:oj P t=some e) (he:cM P e=some (agg,sz,by_,z)) {a:Addr} {n c m:Nat} {k:IntKind} (hm:m < n) (w:World) :
    (Instr.indexAt t (.slice (some a) n c) (.int k m)).run P w=.ok (.pointer (some (a.add (m*sz)))) w:=by
  obtain ⟨i,d,hi,hd,_,rfl,_,_⟩:=fY he
  have hu:=iL ht
  have hsz:(Go.sizeOf e).run P w=.ok i.size w:=by simp [Go.sizeOf,typeInfo,hi]
  simp [Instr.indexAt,asIntOf,run_underlying hu,hsz]
  intro h;omega
theorem aD {t e:TypeId} {agg:Bool} {sz by_ N m:Nat} {z v:Value} {k:IntKind} {y:Int} (hs:ra H v N) (hm:m < N) (hy:y=(m:Int)) (h:dec n ops E i G1=some (t,v,.int k y)) (ht:oj P t=some e) (he:cM P e=some (agg,sz,by_,z))
    (g:WI P n ops (i+1) Q (E.putO (dM ops i) (.pointer (some (cw v (m*sz))))) H):WI P n ops i Q E H :=
  o8 h (fun o ho s ok hs'=>by
    obtain ⟨A,c,rfl,hA⟩:=hs s hs'
    have hA':=hA (by omega)
    cases A with
    | none=>cases hA'
    | some a =>
      unfold G1 at ho
      split at ho
      · rename_i hop
        simp only [Option.some.injEq,Prod.mk.injEq] at ho
        obtain ⟨rfl,hx,hy'⟩:=ho
        unfold execOp
        rw [hop]
        simp only [hx,hy',hy]
        exact c8 (run_indexAt ht he hm s.w)
      · cases ho) g

/- ---- loads -/
def valOf (agg:Bool) (cs:List Value):Value:=match agg with | true=>.agg cs.toArray | false=>cs.headD undef
theorem sO {t:TypeId} {agg:Bool} {sz by_:Nat} {z:Value} (ht:cM P t=some (agg,sz,by_,z)) {w:World} {a:Addr} {cs:List Value} (hl:cs.length=sz) (h1:agg=false→sz=1)
    (h:∀ j u,cs[j]?=some u→w.cell? (a.add j)=some u):(Instr.loadAt t (.pointer (some a))).run P w=.ok (valOf agg cs) w:=by
  obtain ⟨i,d,hi,hd,rfl,rfl,_,_⟩:=fY ht
  unfold Instr.loadAt
  simp only [Instr.sureAddr,Sem.run_bind,Sem.run_pure,Result.andThen_ok,loadVar,tI hd]
  cases hg:Ak d with
  | true =>
    have hsz:(Go.sizeOf t).run P w=.ok i.size w:=by simp [Go.sizeOf,typeInfo,hi]
    simp only [if_true,Sem.run_bind,hsz,Result.andThen_ok]
    rw [← hl,run_loadCells_list (P:=P) w a cs h]
    simp [valOf]
  | false =>
    have hs:=h1 hg
    rw [hs] at hl
    match cs,hl with
    | [v],_ =>
      have:=h 0 v rfl
      rw [Addr.add_zero'] at this
      simp [load,Sem.run,this,valOf]
theorem kL (b off j:Nat):(⟨b,off,none⟩:Addr).add j=⟨b,off+j,none⟩:=Addr.add_lit b off j
def xI (E:Env) (o:Oper):Option (TypeId × Addr) :=
  match o.op with
  | .load t x=>match E.ev x with | .pointer (some a)=>some (t,a) | _=>none
  | _=>none
theorem zZ {t:TypeId} {agg:Bool} {sz by_:Nat} {z:Value} {a:Addr} {X:Type} {cs:X→List Value} {H':X→List aC} (h:dec n ops E i xI=some (t,a)) (ht:cM P t=some (agg,sz,by_,z)) (h1:(agg || Nat.beq sz 1)=true)
    (hc:∀ s,s.Ok→Holds s H→∃ g,(cs g).length=sz∧(∀ j u,(cs g)[j]?=some u→s.w.cell? (a.add j)=some u)∧Holds s (H' g))
    (g:∀ g,WI P n ops (i+1) Q (E.putO (dM ops i) (valOf agg (cs g))) (H' g)):WI P n ops i Q E H :=
  pO (C:=fun _=>True) (H':=H') h (fun o ho s ok hs=>by
    obtain ⟨g,hl,hcell,hs'⟩:=hc s ok hs
    unfold xI at ho
    split at ho
    · rename_i t' x hop
      split at ho
      · rename_i hx
        cases ho
        refine ⟨g,s,?_,trivial,ok,hs'⟩
        unfold execOp
        rw [hop]
        simp only [hx]
        exact c8 (sO ht hl (fun e=>by subst e;simpa using h1) hcell)
      · cases ho
    · cases ho) (fun x _=>g x)
theorem Holds.items {α:Type} {kd:Kd α} {s:St} {x:α} {g:kd.G} (hs:Holds s H) (hi:∀ a ∈ kd.items x g,a.q s):Holds s (kd.items x g++H):=by
  have:∀ (L:List aC),(∀ a ∈ L,a.bs=[])→(∀ a ∈ L,a.q s)→Holds s (L++H):=by
    intro L
    induction L with
    | nil=>intro _ _;exact hs
    | cons y L ih =>
      intro hb hq
      exact (ih (fun a h=>hb a (List.mem_cons_of_mem _ h)) (fun a h=>hq a (List.mem_cons_of_mem _ h))).consPr (hb y (List.mem_cons_self ..)) (hq y (List.mem_cons_self ..))
  exact this _ (kd.pers x g) hi
/-- the cells of the m-th datum of a slice -/
theorem zF {α:Type} {kd:Kd α} {s:St} {A:Option Addr} {c m N C:Nat} {xs:List α} {x:α} (h:yg kd s A c xs) (hm:xs[m]?=some x) :
    ∃ g,(∀ a ∈ kd.items x g,a.q s)∧∀ j u,(kd.cells x g)[j]?=some u→s.w.cell? ((cw (.slice A N C) (m*kd.size)).add j)=some u:=by
  obtain ⟨_,_,_,h⟩:=h
  rcases h with rfl | ⟨b,off,arr,e,f,cs,rfl,_,hh,hr,hc⟩
  · simp at hm
  · obtain ⟨c',⟨g,rfl,hi⟩,hg⟩:=hr.get hm
    refine ⟨g,hi,fun j u hu=>?_⟩
    have:=hc _ u (hg j u hu)
    show s.w.cell? (((⟨b,off,none⟩:Addr).add (m*kd.size)).add j)=some u
    rw [kL,kL]
    simp [World.cell?,hh,Nat.add_assoc,this]
theorem tz {α:Type} {kd:Kd α} {s:St} {e:TypeId} {A:Option Addr} {c m N C:Nat} {xs:List α} {x:α} (h:EC kd e s A c xs) (hm:xs[m]?=some x) :
    ∃ g,(∀ a ∈ kd.items x g,a.q s)∧∀ j u,(kd.cells x g)[j]?=some u→s.w.cell? ((cw (.slice A N C) (m*kd.size)).add j)=some u:=by
  obtain ⟨h1,_,_,h⟩:=h
  have hlt:m < xs.length:=(List.getElem?_eq_some_iff.1 hm).1
  obtain ⟨b,cur,cs,rfl,hh,_,htk,hr⟩:=h (by omega)
  obtain ⟨c',⟨g,rfl,hi⟩,hg⟩:=hr.get hm
  refine ⟨g,hi,fun j u hu=>?_⟩
  have h2:=hg j u hu
  show s.w.cell? (((⟨b,0,none⟩:Addr).add (m*kd.size)).add j)=some u
  rw [kL,kL]
  rw [← htk,List.getElem?_take] at h2
  split at h2
  · simpa [World.cell?,hh] using h2
  · cases h2
theorem pk {l:List Value} {off k j:Nat} {u:Value} (h:((l.drop off).take k)[j]?=some u):l[off+j]?=some u:=by
  rw [List.getElem?_take] at h
  split at h
  · simpa [List.getElem?_drop] using h
  · cases h
theorem aQ {α:Type} {kd:Kd α} {t:TypeId} {agg:Bool} {sz by_:Nat} {z v:Value} {m:Nat} {xs:List α} {x0:α} (j off:Nat) (hp:pick H j=some (nt kd v xs)) (hm:xs[m]?=some x0) (h:dec n ops E i xI=some (t,(cw v (m*kd.size)).add off))
    (ht:cM P t=some (agg,sz,by_,z)) (h1:(agg || Nat.beq sz 1)=true) (hfit:Nat.ble (off+sz) kd.size=true)
    (g:∀ g,WI P n ops (i+1) Q (E.putO (dM ops i) (valOf agg (((kd.cells x0 g).drop off).take sz))) (kd.items x0 g++H)):WI P n ops i Q E H :=
  zZ h ht h1 (fun s ok hs=>by
    obtain ⟨A,c,rfl,hq⟩:=hs.q _ (bp hp)
    obtain ⟨g,hi,hc⟩:=zF (N:=xs.length) (C:=c) hq hm
    refine ⟨g,?_,fun k u hu=>?_,Holds.items hs hi⟩
    · have:=Nat.le_of_ble_eq_true hfit;rw [List.length_take,List.length_drop,kd.len];omega
    · have:=hc _ u (pk hu)
      rwa [Addr.add_add]) g
theorem ce {α:Type} {kd:Kd α} {e t:TypeId} {agg:Bool} {sz by_:Nat} {z v:Value} {m:Nat} {xs:List α} {x0:α} (j off:Nat) (hp:pick H j=some (bb kd e v xs)) (hm:xs[m]?=some x0) (h:dec n ops E i xI=some (t,(cw v (m*kd.size)).add off))
    (ht:cM P t=some (agg,sz,by_,z)) (h1:(agg || Nat.beq sz 1)=true) (hfit:Nat.ble (off+sz) kd.size=true)
    (g:∀ g,WI P n ops (i+1) Q (E.putO (dM ops i) (valOf agg (((kd.cells x0 g).drop off).take sz))) (kd.items x0 g++H)):WI P n ops i Q E H :=
  zZ h ht h1 (fun s ok hs=>by
    obtain ⟨A,c,rfl,hq⟩:=hs.q _ (bp hp)
    obtain ⟨g,hi,hc⟩:=tz (N:=xs.length) (C:=c) hq hm
    refine ⟨g,?_,fun k u hu=>?_,Holds.items hs hi⟩
    · have:=Nat.le_of_ble_eq_true hfit;rw [List.length_take,List.length_drop,kd.len];omega
    · have:=hc _ u (pk hu)
      rwa [Addr.add_add]) g
/-- A load out of a box. -/
theorem ab {t e:TypeId} {agg:Bool} {sz by_ b:Nat} {z:Value} {vs:List Value} (j off:Nat) (hp:pick H j=some (a7 (.pointer (some ⟨b,0,none⟩)) e vs)) (h:dec n ops E i xI=some (t,⟨b,off,none⟩))
    (ht:cM P t=some (agg,sz,by_,z)) (h1:(agg || Nat.beq sz 1)=true) (hfit:Nat.ble (off+sz) vs.length=true)
    (g:WI P n ops (i+1) Q (E.putO (dM ops i) (valOf agg ((vs.drop off).take sz))) H):WI P n ops i Q E H :=
  zZ (X:=Unit) (cs:=fun _=>(vs.drop off).take sz) (H':=fun _=>H) h ht h1 (fun s ok hs=>by
    obtain ⟨b',e',hb⟩:=hs.q _ (bp hp)
    cases e'
    refine ⟨(),?_,fun k u hu=>?_,hs⟩
    · have:=Nat.le_of_ble_eq_true hfit;rw [List.length_take,List.length_drop];omega
    · rw [kL]
      simpa [World.cell?,hb] using pk hu) (fun _=>g)
theorem Ft {t:TypeId} {agg:Bool} {sz by_ b:Nat} {z:Value} {vs:List Value} (j off:Nat) (hp:pick H j=some (FV b vs)) (h:dec n ops E i xI=some (t,⟨b,off,none⟩))
    (ht:cM P t=some (agg,sz,by_,z)) (h1:(agg || Nat.beq sz 1)=true) (hfit:Nat.ble (off+sz) vs.length=true)
    (g:WI P n ops (i+1) Q (E.putO (dM ops i) (valOf agg ((vs.drop off).take sz))) H):WI P n ops i Q E H :=
  zZ (X:=Unit) (cs:=fun _=>(vs.drop off).take sz) (H':=fun _=>H) h ht h1 (fun s ok hs=>by
    obtain ⟨_,e,f,hb⟩:=hs.q _ (bp hp)
    refine ⟨(),?_,fun k u hu=>?_,hs⟩
    · have:=Nat.le_of_ble_eq_true hfit;rw [List.length_take,List.length_drop];omega
    · rw [kL]
      simpa [World.cell?,hb] using pk hu) (fun _=>g)

/- ---- stores -/
theorem oI {t:TypeId} {agg:Bool} {sz by_:Nat} {z v:Value} (ht:cM P t=some (agg,sz,by_,z)) {w:World} {b off:Nat} {cur:Array Value} {e:TypeId} (hb:w.heap[b]?=some (.cells cur e (0,0)))
    (hl:v.cells.size=sz) (hfit:off+sz≤cur.size) (h1:∀ u ∈ v.cells.toList,u.oneCell'=true) :
    (Instr.storeAt t (.pointer (some ⟨b,off,none⟩)) v).run P w=.ok () (w.setRow b (cur.toList.take off++v.cells.toList++cur.toList.drop (off+sz)).toArray):=by
  obtain ⟨i,d,hi,hd,rfl,rfl,_,_⟩:=fY ht
  have hsz:(Go.sizeOf t).run P w=.ok i.size w:=by simp [Go.sizeOf,typeInfo,hi]
  have hst:=run_storeCells_at P b off e v.cells.toList 0 cur w hb (by simpa [hl] using hfit) h1
  simp only [Nat.add_zero,Array.length_toList,hl] at hst
  simp [Instr.storeAt,Instr.sureAddr,storeVar,hsz,hl,hst]
def CE (E:Env) (o:Oper):Option (TypeId × Addr × Value) :=
  match o.op with
  | .store t x y=>match E.ev x with | .pointer (some a)=>some (t,a,E.ev y) | _=>none
  | _=>none
theorem vd {o:Oper} {t:TypeId} {a:Addr} {v:Value} (h:CE E o=some (t,a,v)):∃ x y,o.op=.store t x y∧E.ev x=.pointer (some a)∧E.ev y=v:=by
  unfold CE at h
  split at h
  · rename_i t' x y hop
    split at h
    · rename_i hx;cases h;exact ⟨x,y,hop,hx,rfl⟩
    · cases h
  · cases h
/-- the cells of a box with some written -/
def yb (l:List Value) (off:Nat) (cs:List Value):List Value:=l.take off++cs++l.drop (off+cs.length)
/-- The value's cells are told. -/
def lG (H:List aC) (v:Value) (cs:List Value):Prop:=∀ s,Holds s H→v.cells=cs.toArray
theorem eo {v:Value} {cs:List Value} (h:v.cells=cs.toArray):lG H v cs:=fun _ _=>h
theorem lZ {v:Value} {N:Nat} (h:ra H v N):lG H v [v]:=fun s hs=>by
  obtain ⟨A,c,rfl,_⟩:=h s hs;rfl
theorem cV {t e:TypeId} {agg:Bool} {sz by_ b off:Nat} {z v:Value} {vs cs:List Value} (j:Nat) (hp:pick H j=some (a7 (.pointer (some ⟨b,0,none⟩)) e vs)) (hv:lG H v cs) (h:dec n ops E i CE=some (t,⟨b,off,none⟩,v)) (ht:cM P t=some (agg,sz,by_,z))
    (hl:Nat.beq cs.length sz=true) (hfit:Nat.ble (off+sz) vs.length=true) (h1:∀ s,Holds s H→∀ u ∈ cs,u.oneCell'=true)
    (g:WI P n ops (i+1) Q (E.putO (dM ops i) undef) (a7 (.pointer (some ⟨b,0,none⟩)) e (yb vs off cs) :: bo H j)):WI P n ops i Q E H :=
  Ej h (fun o ho s ok hs=>by
    obtain ⟨x,y,hop,hx,hy⟩:=vd ho
    obtain ⟨b',e',hb⟩:=hs.q _ (bp hp)
    cases e'
    have hc:=hv s hs
    have hl':=Nat.eq_of_beq_eq_true hl
    have hr:=oI (P:=P) (v:=v) ht hb (by rw [hc];simpa using hl') (by simpa using Nat.le_of_ble_eq_true hfit) (by rw [hc];exact h1 s hs)
    refine ⟨⟨_,s.fz⟩,?_,Holds.upd ok (Holds.out hs hp) (w':=s.w.setRow b (yb vs off cs).toArray) (setRow_size ..) rfl rfl rfl (fun k _ hk=>setRow_other _ _ _ _ (fun e=>hk (by subst e;simp [a7,nQ]))) rfl ⟨b,rfl,setRow_heap _ _ _ _ _ _ hb⟩⟩
    unfold execOp
    rw [hop]
    simp only [hx,hy]
    simp only [Sem.run_bind,hr,Result.andThen_ok,Sem.run_pure,yb,hl',hc]) g
theorem vJ {α:Type} {cur new:List α} {a k m:Nat} (hm:a+k≤m) (hn:new.length=k) (hc:m≤cur.length):((cur.take m).take a++new++(cur.take m).drop (a+k))=(cur.take a++new++cur.drop (a+k)).take m:=by
  apply List.ext_getElem?
  intro j
  simp only [List.getElem?_take,List.getElem?_append,List.length_append,List.length_take,hn,List.getElem?_drop]
  have e1:min a cur.length=a:=by omega
  have e2:min a (min m cur.length)=a:=by omega
  rw [e1,e2]
  by_cases hj:j < m
  · simp only [hj,if_true]
    by_cases h2:j < a+k
    · simp only [h2,if_true]
    · simp only [h2,if_false]
      rw [if_pos (by omega)]
  · simp only [hj,if_false]
    rw [if_neg (by omega),if_neg (by omega)]
theorem fo {α:Type} {kd:Kd α} {t e:TypeId} {agg:Bool} {by_:Nat} {z v w:Value} {m:Nat} {xs ys:List α} {x0:α} (j:Nat) (gh:kd.G) (hp:pick H j=some (bb kd e v xs)) (hm:m < xs.length) (hy:ys=xs.set m x0) (h:dec n ops E i CE=some (t,cw v (m*kd.size),w)) (ht:cM P t=some (agg,kd.size,by_,z))
    (hv':lG H w (kd.cells x0 gh)) (hi:∀ s,Holds s H→∀ a ∈ kd.items x0 gh,a.q s)
    (g:WI P n ops (i+1) Q (E.putO (dM ops i) undef) (bb kd e v ys :: bo H j)):WI P n ops i Q E H :=
  Ej h (fun o ho s ok hs=>by
    subst hy
    obtain ⟨x,y,hop,hx,hy⟩:=vd ho
    have hv:w.cells.toList=kd.cells x0 gh:=by rw [hv' s hs]
    obtain ⟨A,c,rfl,hnc,hcm,hlen,hown⟩:=hs.q _ (bp hp)
    have hc0:0 < c:=by omega
    obtain ⟨b,cur,cs,rfl,hh,hsz,htk,hrow⟩:=hown hc0
    have hvl:w.cells.size=kd.size:=by rw [← Array.length_toList,hv,kd.len]
    have hfit:m*kd.size+kd.size≤xs.length*kd.size:=by
      have:=Nat.mul_le_mul_right kd.size (show m+1≤xs.length from hm)
      rw [Nat.add_mul] at this;omega
    have hfit2:xs.length*kd.size≤cur.size:=by rw [hsz];exact Nat.mul_le_mul_right _ hnc
    have hr:=oI (P:=P) (off:=m*kd.size) ht hh hvl (by omega) (by rw [hv];exact kd.one s x0 gh (hi s hs))
    have hrd:kd.rd s x0 (kd.cells x0 gh):=⟨gh,rfl,hi s hs⟩
    have hx':E.ev x=.pointer (some ⟨b,m*kd.size,none⟩):=by rw [hx];show Value.pointer (some ((⟨b,0,none⟩:Addr).add _))=_;rw [kL,Nat.zero_add]
    have hbs:(bb kd e (.slice (some ⟨b,0,none⟩) xs.length c) xs).bs=[b]:=by show nQ (.slice (some ⟨b,0,none⟩) xs.length c)=[b];match c,hc0 with | _+1,_=>rfl
    have hle:Le s ⟨s.w.setRow b (cur.toList.take (m*kd.size)++kd.cells x0 gh++cur.toList.drop (m*kd.size+kd.size)).toArray,s.fz⟩ :=
      ⟨rfl,rfl,rfl,Nat.le_of_eq (setRow_size ..).symm,fun k hk=>⟨hk,setRow_other _ _ _ _ (fun e=>((Holds.out hs hp).own b (by rw [dN,List.flatMap_cons,hbs];simp)).2 (e ▸ hk))⟩⟩
    refine ⟨⟨_,s.fz⟩,?_,Holds.upd ok (Holds.out hs hp) (w':=s.w.setRow b (cur.toList.take (m*kd.size)++kd.cells x0 gh++cur.toList.drop (m*kd.size+kd.size)).toArray) (setRow_size ..) rfl rfl rfl
      (fun k _ hk=>setRow_other _ _ _ _ (fun e=>hk (by rw [hbs,e];simp))) rfl ?_⟩
    · unfold execOp
      rw [hop]
      simp only [hx',hy]
      simp only [Sem.run_bind,hr,Result.andThen_ok,Sem.run_pure,hv]
    · have hrow':=(hrow.set hm hrd).mono hle
      have hl1:(kd.cells x0 gh).length=kd.size:=kd.len ..
      refine ⟨_,c,by rw [List.length_set],by simpa using hnc,hcm,by simpa using hlen,fun _=>⟨b,_,_,rfl,setRow_heap _ _ _ _ _ _ hh,?_,?_,hrow'⟩⟩
      · simp only [List.size_toArray,List.length_append,List.length_take,List.length_drop,Array.length_toList,hl1];omega
      · rw [← htk,List.length_set]
        exact (vJ hfit hl1 (by simpa using hfit2)).symm) g
theorem e6 {α:Type} {kd:Kd α} {x:α} {g:kd.G} (h:kd.items x g=[]):∀ s,Holds s H→∀ a ∈ kd.items x g,a.q s:=fun _ _ a ha=>by rw [h] at ha;cases ha
theorem lL {α:Type} {kd:Kd α} {v:Value} {xs:List α} (j:Nat) (hp:pick H j=some (nt kd v xs)):∀ s,Holds s H→∀ a ∈ (Kd.sl kd).items xs v,a.q s:=fun _ hs a ha=>by
  rw [List.mem_singleton.1 ha];exact hs.q _ (bp hp)
theorem CJ {α β:Type} {k:Kd α} {l:Kd β} {x:α × β} {g:k.G} {g':l.G} (h1:∀ s,Holds s H→∀ a ∈ k.items x.1 g,a.q s) (h2:∀ s,Holds s H→∀ a ∈ l.items x.2 g',a.q s):∀ s,Holds s H→∀ a ∈ (Kd.pair k l).items x (g,g'),a.q s:=fun s hs a ha =>
  (List.mem_append.1 ha).elim (h1 s hs a) (h2 s hs a)
theorem DC {α β:Type} {k:Kd α} {f:β→α} {x:β} {g:k.G} (h:∀ s,Holds s H→∀ a ∈ k.items (f x) g,a.q s):∀ s,Holds s H→∀ a ∈ (Kd.co k f).items x g,a.q s:=h
theorem FX {x:Value} {g:Kd.raw.G} (h:∀ s,Holds s H→x.oneCell'=true):∀ s,Holds s H→∀ a ∈ Kd.raw.items x g,a.q s:=fun s hs a ha=>by rw [List.mem_singleton.1 ha];exact h s hs
end
end Gw
