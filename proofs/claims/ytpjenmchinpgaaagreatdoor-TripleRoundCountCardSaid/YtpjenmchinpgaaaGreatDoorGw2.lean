/- Own words: the rules of single operations over memory, told by headers as values. -/
import Derived.Test.YtpjenmchinpgaaaGreatDoorGw1
set_option linter.unusedVariables false
namespace Gw
open Go Gv

theorem Holds.new{s:St}{H:List aG}(ok:s.Ok)(hs:Holds s H){w':World}(hsz:s.w.heap.size<w'.heap.size)(hos:w'.os=s.w.os)(htp:w'.tape=s.w.tape)(hout:w'.output=s.w.output)
  (hold:∀k,k<s.w.heap.size→w'.heap[k]?=s.w.heap[k]?) {y:aG} (hb:y.bs=[s.w.heap.size]∨y.bs=[]) (hq:y.q ⟨w',s.fz⟩):St.Ok ⟨w',s.fz⟩∧Holds ⟨w',s.fz⟩ (y::H):=by
 refine⟨λk hk=>Nat.lt_of_lt_of_le (ok k hk) (Nat.le_of_lt hsz),?_⟩
 have:=Holds.chg (X:=[]) (F:=H) (Y:=[y]) (b:=⟨w',s.fz⟩) ok hs ⟨hos,htp,hout,Nat.le_of_lt hsz,λk hk _=>hold k hk,λ_ h=>h,λ_ _ _ h=>h⟩
  (λz hz=>by rw[List.mem_singleton] at hz;subst hz;exact hq)
  (λk hk=>by
   rcases hb with hb | hb
   ·simp only[eB,List.flatMap_cons,hb,List.flatMap_nil,List.append_nil,List.mem_singleton] at hk
    subst hk
    exact⟨.inr (Nat.le_refl _),hsz,λhf=>Nat.lt_irrefl _ (ok _ hf)⟩
   ·simp[eB,hb] at hk)
  (by rcases hb with hb | hb <;> simp[eB,hb])
 exact this
theorem Holds.same{s:St}{H:List aG}(ok:s.Ok)(hs:Holds s H){w':World}(hsz:s.w.heap.size≤w'.heap.size)(hos:w'.os=s.w.os)(htp:w'.tape=s.w.tape)(hout:w'.output=s.w.output)
    (hold:∀ k,k < s.w.heap.size→w'.heap[k]?=s.w.heap[k]?):St.Ok ⟨w',s.fz⟩∧Holds ⟨w',s.fz⟩ H :=
  ⟨fun k hk=>Nat.lt_of_lt_of_le (ok k hk) hsz,
   Holds.chg (X:=[]) (F:=H) (Y:=[]) (b:=⟨w',s.fz⟩) ok hs ⟨hos,htp,hout,hsz,fun k hk _=>hold k hk,fun _ h=>h,fun _ _ _ h=>h⟩ (fun _ h=>nomatch h) (fun _ h=>by simp [eB] at h) (by simp [eB])⟩
/-- One item's block alone is written. -/
theorem Holds.upd{s:St}{x:aG}{F:List aG}(ok:s.Ok)(hs:Holds s (x::F)){w':World}(hsz:w'.heap.size=s.w.heap.size)(hos:w'.os=s.w.os)(htp:w'.tape=s.w.tape)(hout:w'.output=s.w.output)
  (hold:∀k,k<s.w.heap.size→k∉x.bs→w'.heap[k]?=s.w.heap[k]?) {y:aG} (hb:y.bs=x.bs) (hq:y.q ⟨w',s.fz⟩):St.Ok ⟨w',s.fz⟩∧Holds ⟨w',s.fz⟩ (y::F):=by
 refine⟨λk hk=>by rw[hsz];exact ok k hk,?_⟩
 have hx:eB [x]=x.bs:=by simp[eB]
 have hy:eB [y]=x.bs:=by simp[eB,hb]
 have hnd:x.bs.Nodup:=by have:=hs.nd;simp only[eB,List.flatMap_cons] at this;exact(List.nodup_append.1 this).1
 have hown:∀k∈x.bs,k<s.w.heap.size∧¬s.fz k:=λk hk=>hs.own k (by simp only[eB,List.flatMap_cons,List.mem_append];exact .inl hk)
 exact Holds.chg (X:=[x]) (F:=F) (Y:=[y]) (b:=⟨w',s.fz⟩) ok hs ⟨hos,htp,hout,Nat.le_of_eq hsz.symm,λk hk hn=>hold k hk (by rwa [hx] at hn),λ_ h=>h,λ_ _ _ h=>h⟩
  (λz hz=>by rw[List.mem_singleton] at hz;subst hz;exact hq)
  (λk hk=>by rw[hy] at hk;rw[hx];exact⟨.inl hk,by show k<w'.heap.size;rw[hsz];exact(hown k hk).1,(hown k hk).2⟩) (by rw[hy];exact hnd)
theorem setRow_size(w:World)(g:Nat)(cs:Array Value):(w.setRow g cs).heap.size=w.heap.size:=by simp[World.setRow]
theorem Holds.out{s:St}{H:List aG}{j:Nat}{x:aG}(hs:Holds s H)(hp:pick H j=some x):Holds s (x::ct H j):=hs.perm (kx H j x hp)

/- ---- one operation -/
def eX(ops:sH)(i:Nat):Option Nat:=match opAt ops i with | some o=>o.dst | none=>none
def dec{β:Type}(n:Nat)(ops:sH)(E:Env)(i:Nat)(f:Env→Oper→Option β):Option β :=
 match opAt ops i with
 | some o=>match okO n o.dst with
  | true=>match sy ops.a E o with
   | true=>f E o
   | false=>none
  | false=>none
 | none=>none
theorem re{β:Type}{n:Nat}{ops:sH}{E:Env}{i:Nat}{f:Env→Oper→Option β}{b:β}(h:dec n ops E i f=some b):∃o,opAt ops i=some o∧okO n o.dst=true∧sy ops.a E o=true∧f E o=some b∧eX ops i=o.dst:=by
 unfold dec at h
 split at h
 ·rename_i o ho
  split at h
  ·split at h
   ·exact⟨o,ho,by assumption,by assumption,h,by unfold eX;rw[ho]⟩
   ·cases h
  ·cases h
 ·cases h

section
variable {P:Program}{n:Nat}{Q:cQ}{E:Env}{H F:List aG}{ops:sH}{i:Nat}

theorem rC{β:Type}{f:Env→Oper→Option β}{b:β}{X:Type}{C:X→Prop}{V:X→Value}{H':X→List aG}(h:dec n ops E i f=some b)
  (hr:∀o,f E o=some b→∀s,s.Ok→Holds s H→∃x s',(execOp E.ev o).run P s.w=.ok (.value (V x)) s'.w∧C x∧s'.Ok∧Holds s' (H' x))
  (g:∀x,C x→WI P n ops (i+1) Q (E.putO (eX ops i) (V x)) (H' x)):WI P n ops i Q E H:=by
 obtain⟨o,h1,h2,h3,h4,h5⟩:=re h
 rw[h5] at g
 exact AW h1 h2 h3 (hr o h4) g
theorem HY{β:Type}{f:Env→Oper→Option β}{b:β}{H':List aG}(h:dec n ops E i f=some b)
  (hr:∀o,f E o=some b→∀s,s.Ok→Holds s H→∃s',(execOp E.ev o).run P s.w=.ok .skip s'.w∧s'.Ok∧Holds s' H')
  (g:WI P n ops (i+1) Q (E.putO (eX ops i) undef) H'):WI P n ops i Q E H:=by
 obtain⟨o,h1,h2,h3,h4,h5⟩:=re h
 rw[h5] at g
 exact H5 h1 h2 h3 (hr o h4) g
/-- One value, nothing turns. -/
theorem qz{β:Type}{f:Env→Oper→Option β}{b:β}{v:Value}(h:dec n ops E i f=some b)
  (hr:∀o,f E o=some b→∀s,s.Ok→Holds s H→(execOp E.ev o).run P s.w=.ok (.value v) s.w)
  (g:WI P n ops (i+1) Q (E.putO (eX ops i) v) H):WI P n ops i Q E H :=
 rC (X:=Unit) (C:=λ_=>True) (V:=λ_=>v) (H':=λ_=>H) h (λo ho s ok hs=>⟨(),s,hr o ho s ok hs,trivial,ok,hs⟩) (λ_ _=>g)

/- ---- several that only compute -/
def MY(T:wc)(n:Nat)(ops:sH)(i k:Nat)(E:Env):Env:=match CZ T n ops k (ops.l.drop i) E with | some E'=>E' | none=>E
theorem Rf{T:wc}(ht:T.ok P=true)(k:Nat)(h:(CZ T n ops k (ops.l.drop i) E).isSome=true)(g:WI P n ops (i+k) Q (MY T n ops i k E) H):WI P n ops i Q E H:=by
 unfold MY at g
 split at g
 ·rename_i E' hE;exact vm ht k i E E' hE g
 ·rename_i hE;rw[hE] at h;cases h

/- ---- the type's facts -/
theorem ja{t:TypeId}{agg:Bool}{sz by_:Nat}{z:Value}(h:dR P t=some (agg,sz,by_,z)) :
  ∃i d,P.info? t=some i∧P.underlying t=some d∧Ik d=agg∧i.size=sz∧i.bytes=by_∧i.zero=some z:=by
 unfold dR at h
 split at h
 ·rename_i i d hi hd
  split at h
  ·rename_i z' hz;cases h;exact⟨i,d,hi,hd,rfl,rfl,rfl,hz⟩
  ·cases h
 ·cases h
theorem lK{t e:TypeId}(h:rz P t=some e):P.underlying t=some (.slice e):=by
 unfold rz at h
 split at h
 ·cases h;assumption
 ·cases h
theorem zF{t:TypeId}{d:TypeDesc}(hd:P.underlying t=some d)(w:World):(isAgg t).run P w=.ok (Ik d) w:=by
 unfold isAgg
 rw[Sem.run_bind,run_underlying hd w]
 cases d <;> rfl
theorem xG{s:Sem Value}{v:Value}{w w':World}(h:s.run P w=.ok v w'):(do pure (Next.value (←s)):Sem Next).run P w=.ok (.value v) w':=by simp[h]

/- ---- slices: header, length, places -/
def wJ(H:List aG)(v:Value)(N:Nat):Prop:=∀s,Holds s H→∃A c,v=.slice A N c∧(0<N→A.isSome=true)
theorem al{α:Type}{kd:Kd α}{v:Value}{xs:List α}(j:Nat)(hp:pick H j=some (rm kd v xs)):wJ H v xs.length:=λs hs=>by
 obtain⟨A,c,hv,_,_,_,h⟩:=hs.q _ (cj hp)
 refine⟨A,c,hv,λh0=>?_⟩
 rcases h with rfl | ⟨b,off,_,_,_,_,rfl,_⟩
 ·simp at h0
 ·rfl
theorem aw{α:Type}{kd:Kd α}{e:TypeId}{v:Value}{xs:List α}(j:Nat)(hp:pick H j=some (bE kd e v xs)):wJ H v xs.length:=λs hs=>by
 obtain⟨A,c,hv,h1,_,_,h⟩:=hs.q _ (cj hp)
 refine⟨A,c,hv,λh0=>?_⟩
 obtain⟨g,_,_,rfl,_⟩:=h (by omega)
 rfl
def NY(E:Env)(o:Oper):Option (TypeId×Value) :=
 match o.op with
 | .call c=>match c.callee,c.args.toList,c.argTypes.toList with
  | .builtin .len,[x],[t]=>some (t,E.ev x)
  | _,_,_=>none
 | _=>none
theorem aQ{t e:TypeId}{v:Value}{N:Nat}(hs:wJ H v N)(h:dec n ops E i NY=some (t,v))(ht:rz P t=some e)(g:WI P n ops (i+1) Q (E.putO (eX ops i) (.int .i64 N)) H):WI P n ops i Q E H :=
 qz h (λo ho s ok hs'=>by
  obtain⟨A,c,hv,_⟩:=hs s hs'
  unfold NY at ho
  split at ho
  ·rename_i c hop
   split at ho
   ·rename_i x t' hc ha hty
    simp only[Option.some.injEq,Prod.mk.injEq] at ho
    obtain⟨rfl,hx⟩:=ho
    obtain⟨callee,args,argTypes⟩:=c
    simp only at hc ha hty
    subst hc
    have ha':args=#[x]:=by rw[←Array.toArray_toList (xs:=args),ha]
    have ht':argTypes=#[t']:=by rw[←Array.toArray_toList (xs:=argTypes),hty]
    subst ha';subst ht'
    simp[execOp,hop,resolve,invoke,builtin,Builtin.len_,run_underlying (lK ht),hx,hv,goInt]
   ·cases ho
  ·cases ho) g
/-- The address of what lies o cells behind the head of a slice. -/
def dp(v:Value)(o:Nat):Addr:=match v with | .slice A _ _=>(A.getD default).add o | _=>default
def QO(E:Env)(o:Oper):Option (TypeId×Value×Value) :=
 match o.op with
 | .indexAddr t x y=>some (t,E.ev x,E.ev y)
 | _=>none
theorem run_indexAt{t e:TypeId}{agg:Bool}{sz by_:Nat}{z:Value}(ht:rz P t=some e)(he:dR P e=some (agg,sz,by_,z)){a:Addr}{n c m:Nat}{k:IntKind}(hm:m<n)(w:World) :
  (Instr.indexAt t (.slice (some a) n c) (.int k m)).run P w=.ok (.pointer (some (a.add (m*sz)))) w:=by
 obtain⟨i,d,hi,hd,_,rfl,_,_⟩:=ja he
 have hu:=lK ht
 have hsz:(Go.sizeOf e).run P w=.ok i.size w:=by simp[Go.sizeOf,typeInfo,hi]
 simp[Instr.indexAt,asIntOf,run_underlying hu,hsz]
 intro h;omega
theorem aJ{t e:TypeId}{agg:Bool}{sz by_ N m:Nat}{z v:Value}{k:IntKind}{y:Int}(hs:wJ H v N)(hm:m<N)(hy:y=(m:Int))(h:dec n ops E i QO=some (t,v,.int k y))(ht:rz P t=some e)(he:dR P e=some (agg,sz,by_,z))
  (g:WI P n ops (i+1) Q (E.putO (eX ops i) (.pointer (some (dp v (m*sz))))) H):WI P n ops i Q E H :=
 qz h (λo ho s ok hs'=>by
  obtain⟨A,c,rfl,hA⟩:=hs s hs'
  have hA':=hA (by omega)
  cases A with
  | none=>cases hA'
  | some a =>
   unfold QO at ho
   split at ho
   ·rename_i hop
    simp only[Option.some.injEq,Prod.mk.injEq] at ho
    obtain⟨rfl,hx,hy'⟩:=ho
    unfold execOp
    rw[hop]
    simp only[hx,hy',hy]
    exact eA (run_indexAt ht he hm s.w)
   ·cases ho) g

/- ---- loads -/
def valOf(agg:Bool)(cs:List Value):Value:=match agg with | true=>.agg cs.toArray | false=>cs.headD undef
theorem yD{t:TypeId}{agg:Bool}{sz by_:Nat}{z:Value}(ht:dR P t=some (agg,sz,by_,z)){w:World}{a:Addr}{cs:List Value}(hl:cs.length=sz)(h1:agg=false→sz=1)
  (h:∀j u,cs[j]?=some u→w.cell? (a.add j)=some u):(Instr.loadAt t (.pointer (some a))).run P w=.ok (valOf agg cs) w:=by
 obtain⟨i,d,hi,hd,rfl,rfl,_,_⟩:=ja ht
 unfold Instr.loadAt
 simp only[Instr.sureAddr,Sem.run_bind,Sem.run_pure,Result.andThen_ok,loadVar,zF hd]
 cases hg:Ik d with
 | true =>
  have hsz:(Go.sizeOf t).run P w=.ok i.size w:=by simp[Go.sizeOf,typeInfo,hi]
  simp only[if_true,Sem.run_bind,hsz,Result.andThen_ok]
  rw[←hl,run_loadCells_list (P:=P) w a cs h]
  simp[valOf]
 | false =>
  have hs:=h1 hg
  rw[hs] at hl
  match cs,hl with
  | [v],_ =>
   have:=h 0 v rfl
   rw[Addr.add_zero'] at this
   simp[load,Sem.run,this,valOf]
theorem oJ(b off j:Nat):(⟨b,off,none⟩:Addr).add j=⟨b,off+j,none⟩:=Addr.add_lit b off j
def Ez(E:Env)(o:Oper):Option (TypeId×Addr) :=
 match o.op with
 | .load t x=>match E.ev x with | .pointer (some a)=>some (t,a) | _=>none
 | _=>none
theorem HX{t:TypeId}{agg:Bool}{sz by_:Nat}{z:Value}{a:Addr}{X:Type}{cs:X→List Value}{H':X→List aG}(h:dec n ops E i Ez=some (t,a))(ht:dR P t=some (agg,sz,by_,z))(h1:(agg||Nat.beq sz 1)=true)
  (hc:∀s,s.Ok→Holds s H→∃g,(cs g).length=sz∧(∀j u,(cs g)[j]?=some u→s.w.cell? (a.add j)=some u)∧Holds s (H' g))
  (g:∀g,WI P n ops (i+1) Q (E.putO (eX ops i) (valOf agg (cs g))) (H' g)):WI P n ops i Q E H :=
 rC (C:=λ_=>True) (H':=H') h (λo ho s ok hs=>by
  obtain⟨g,hl,hcell,hs'⟩:=hc s ok hs
  unfold Ez at ho
  split at ho
  ·rename_i t' x hop
   split at ho
   ·rename_i hx
    cases ho
    refine⟨g,s,?_,trivial,ok,hs'⟩
    unfold execOp
    rw[hop]
    simp only[hx]
    exact eA (yD ht hl (λe=>by subst e;simpa using h1) hcell)
   ·cases ho
  ·cases ho) (λx _=>g x)
theorem Holds.items{α:Type}{kd:Kd α}{s:St}{x:α}{g:kd.G}(hs:Holds s H)(hi:∀a∈kd.items x g,a.q s):Holds s (kd.items x g++H):=by
 have:∀(L:List aG),(∀a∈L,a.bs=[])→(∀a∈L,a.q s)→Holds s (L++H):=by
  intro L
  induction L with
  | nil=>intro _ _;exact hs
  | cons y L ih =>
   intro hb hq
   exact(ih (λa h=>hb a (List.mem_cons_of_mem _ h)) (λa h=>hq a (List.mem_cons_of_mem _ h))).consPr (hb y (List.mem_cons_self ..)) (hq y (List.mem_cons_self ..))
 exact this _ (kd.pers x g) hi
/-- the cells of the m-th datum of a slice -/
theorem Hp{α:Type}{kd:Kd α}{s:St}{A:Option Addr}{c m N C:Nat}{xs:List α}{x:α}(h:Fj kd s A c xs)(hm:xs[m]?=some x) :
  ∃g,(∀a∈kd.items x g,a.q s)∧∀j u,(kd.cells x g)[j]?=some u→s.w.cell? ((dp (.slice A N C) (m*kd.size)).add j)=some u:=by
 obtain⟨_,_,_,h⟩:=h
 rcases h with rfl | ⟨b,off,arr,e,f,cs,rfl,_,hh,hr,hc⟩
 ·simp at hm
 ·obtain⟨c',⟨g,rfl,hi⟩,hg⟩:=hr.get hm
  refine⟨g,hi,λj u hu=>?_⟩
  have:=hc _ u (hg j u hu)
  show s.w.cell? (((⟨b,off,none⟩:Addr).add (m*kd.size)).add j)=some u
  rw[oJ,oJ]
  simp[World.cell?,hh,Nat.add_assoc,this]
theorem zi{α:Type}{kd:Kd α}{s:St}{e:TypeId}{A:Option Addr}{c m N C:Nat}{xs:List α}{x:α}(h:NM kd e s A c xs)(hm:xs[m]?=some x) :
  ∃g,(∀a∈kd.items x g,a.q s)∧∀j u,(kd.cells x g)[j]?=some u→s.w.cell? ((dp (.slice A N C) (m*kd.size)).add j)=some u:=by
 obtain⟨h1,_,_,h⟩:=h
 have hlt:m<xs.length:=(List.getElem?_eq_some_iff.1 hm).1
 obtain⟨b,cur,cs,rfl,hh,_,htk,hr⟩:=h (by omega)
 obtain⟨c',⟨g,rfl,hi⟩,hg⟩:=hr.get hm
 refine⟨g,hi,λj u hu=>?_⟩
 have h2:=hg j u hu
 show s.w.cell? (((⟨b,0,none⟩:Addr).add (m*kd.size)).add j)=some u
 rw[oJ,oJ]
 rw[←htk,List.getElem?_take] at h2
 split at h2
 ·simpa[World.cell?,hh] using h2
 ·cases h2
theorem um{l:List Value}{off k j:Nat}{u:Value}(h:((l.drop off).take k)[j]?=some u):l[off+j]?=some u:=by
 rw[List.getElem?_take] at h
 split at h
 ·simpa[List.getElem?_drop] using h
 ·cases h
theorem aW{α:Type}{kd:Kd α}{t:TypeId}{agg:Bool}{sz by_:Nat}{z v:Value}{m:Nat}{xs:List α}{x0:α}(j off:Nat)(hp:pick H j=some (rm kd v xs))(hm:xs[m]?=some x0)(h:dec n ops E i Ez=some (t,(dp v (m*kd.size)).add off))
  (ht:dR P t=some (agg,sz,by_,z)) (h1:(agg||Nat.beq sz 1)=true) (hfit:Nat.ble (off+sz) kd.size=true)
  (g:∀g,WI P n ops (i+1) Q (E.putO (eX ops i) (valOf agg (((kd.cells x0 g).drop off).take sz))) (kd.items x0 g++H)):WI P n ops i Q E H :=
 HX h ht h1 (λs ok hs=>by
  obtain⟨A,c,rfl,hq⟩:=hs.q _ (cj hp)
  obtain⟨g,hi,hc⟩:=Hp (N:=xs.length) (C:=c) hq hm
  refine⟨g,?_,λk u hu=>?_,Holds.items hs hi⟩
  ·have:=Nat.le_of_ble_eq_true hfit;rw[List.length_take,List.length_drop,kd.len];omega
  ·have:=hc _ u (um hu)
   rwa [Addr.add_add]) g
theorem dH{α:Type}{kd:Kd α}{e t:TypeId}{agg:Bool}{sz by_:Nat}{z v:Value}{m:Nat}{xs:List α}{x0:α}(j off:Nat)(hp:pick H j=some (bE kd e v xs))(hm:xs[m]?=some x0)(h:dec n ops E i Ez=some (t,(dp v (m*kd.size)).add off))
  (ht:dR P t=some (agg,sz,by_,z)) (h1:(agg||Nat.beq sz 1)=true) (hfit:Nat.ble (off+sz) kd.size=true)
  (g:∀g,WI P n ops (i+1) Q (E.putO (eX ops i) (valOf agg (((kd.cells x0 g).drop off).take sz))) (kd.items x0 g++H)):WI P n ops i Q E H :=
 HX h ht h1 (λs ok hs=>by
  obtain⟨A,c,rfl,hq⟩:=hs.q _ (cj hp)
  obtain⟨g,hi,hc⟩:=zi (N:=xs.length) (C:=c) hq hm
  refine⟨g,?_,λk u hu=>?_,Holds.items hs hi⟩
  ·have:=Nat.le_of_ble_eq_true hfit;rw[List.length_take,List.length_drop,kd.len];omega
  ·have:=hc _ u (um hu)
   rwa [Addr.add_add]) g
/-- A load out of a box. -/
theorem ab{t e:TypeId}{agg:Bool}{sz by_ b:Nat}{z:Value}{vs:List Value}(j off:Nat)(hp:pick H j=some (bH (.pointer (some ⟨b,0,none⟩)) e vs))(h:dec n ops E i Ez=some (t,⟨b,off,none⟩))
  (ht:dR P t=some (agg,sz,by_,z)) (h1:(agg||Nat.beq sz 1)=true) (hfit:Nat.ble (off+sz) vs.length=true)
  (g:WI P n ops (i+1) Q (E.putO (eX ops i) (valOf agg ((vs.drop off).take sz))) H):WI P n ops i Q E H :=
 HX (X:=Unit) (cs:=λ_=>(vs.drop off).take sz) (H':=λ_=>H) h ht h1 (λs ok hs=>by
  obtain⟨b',e',hb⟩:=hs.q _ (cj hp)
  cases e'
  refine⟨(),?_,λk u hu=>?_,hs⟩
  ·have:=Nat.le_of_ble_eq_true hfit;rw[List.length_take,List.length_drop];omega
  ·rw[oJ]
   simpa[World.cell?,hb] using um hu) (λ_=>g)
theorem ON{t:TypeId}{agg:Bool}{sz by_ b:Nat}{z:Value}{vs:List Value}(j off:Nat)(hp:pick H j=some (Po b vs))(h:dec n ops E i Ez=some (t,⟨b,off,none⟩))
  (ht:dR P t=some (agg,sz,by_,z)) (h1:(agg||Nat.beq sz 1)=true) (hfit:Nat.ble (off+sz) vs.length=true)
  (g:WI P n ops (i+1) Q (E.putO (eX ops i) (valOf agg ((vs.drop off).take sz))) H):WI P n ops i Q E H :=
 HX (X:=Unit) (cs:=λ_=>(vs.drop off).take sz) (H':=λ_=>H) h ht h1 (λs ok hs=>by
  obtain⟨_,e,f,hb⟩:=hs.q _ (cj hp)
  refine⟨(),?_,λk u hu=>?_,hs⟩
  ·have:=Nat.le_of_ble_eq_true hfit;rw[List.length_take,List.length_drop];omega
  ·rw[oJ]
   simpa[World.cell?,hb] using um hu) (λ_=>g)

/- ---- stores -/
theorem tF{t:TypeId}{agg:Bool}{sz by_:Nat}{z v:Value}(ht:dR P t=some (agg,sz,by_,z)){w:World}{b off:Nat}{cur:Array Value}{e:TypeId}(hb:w.heap[b]?=some (.cells cur e (0,0)))
  (hl:v.cells.size=sz) (hfit:off+sz≤cur.size) (h1:∀u∈v.cells.toList,u.oneCell'=true) :
  (Instr.storeAt t (.pointer (some ⟨b,off,none⟩)) v).run P w=.ok () (w.setRow b (cur.toList.take off++v.cells.toList++cur.toList.drop (off+sz)).toArray):=by
 obtain⟨i,d,hi,hd,rfl,rfl,_,_⟩:=ja ht
 have hsz:(Go.sizeOf t).run P w=.ok i.size w:=by simp[Go.sizeOf,typeInfo,hi]
 have hst:=run_storeCells_at P b off e v.cells.toList 0 cur w hb (by simpa[hl] using hfit) h1
 simp only[Nat.add_zero,Array.length_toList,hl] at hst
 simp[Instr.storeAt,Instr.sureAddr,storeVar,hsz,hl,hst]
def Lb(E:Env)(o:Oper):Option (TypeId×Addr×Value) :=
 match o.op with
 | .store t x y=>match E.ev x with | .pointer (some a)=>some (t,a,E.ev y) | _=>none
 | _=>none
theorem Bw{o:Oper}{t:TypeId}{a:Addr}{v:Value}(h:Lb E o=some (t,a,v)):∃x y,o.op=.store t x y∧E.ev x=.pointer (some a)∧E.ev y=v:=by
 unfold Lb at h
 split at h
 ·rename_i t' x y hop
  split at h
  ·rename_i hx;cases h;exact⟨x,y,hop,hx,rfl⟩
  ·cases h
 ·cases h
/-- the cells of a box with some written -/
def EV(l:List Value)(off:Nat)(cs:List Value):List Value:=l.take off++cs++l.drop (off+cs.length)
/-- The value's cells are told. -/
def pQ(H:List aG)(v:Value)(cs:List Value):Prop:=∀s,Holds s H→v.cells=cs.toArray
theorem gX{v:Value}{cs:List Value}(h:v.cells=cs.toArray):pQ H v cs:=λ_ _=>h
theorem pu{v:Value}{N:Nat}(h:wJ H v N):pQ H v [v]:=λs hs=>by
 obtain⟨A,c,rfl,_⟩:=h s hs;rfl
theorem dU{t e:TypeId}{agg:Bool}{sz by_ b off:Nat}{z v:Value}{vs cs:List Value}(j:Nat)(hp:pick H j=some (bH (.pointer (some ⟨b,0,none⟩)) e vs))(hv:pQ H v cs)(h:dec n ops E i Lb=some (t,⟨b,off,none⟩,v))(ht:dR P t=some (agg,sz,by_,z))
  (hl:Nat.beq cs.length sz=true) (hfit:Nat.ble (off+sz) vs.length=true) (h1:∀s,Holds s H→∀u∈cs,u.oneCell'=true)
  (g:WI P n ops (i+1) Q (E.putO (eX ops i) undef) (bH (.pointer (some ⟨b,0,none⟩)) e (EV vs off cs)::ct H j)):WI P n ops i Q E H :=
 HY h (λo ho s ok hs=>by
  obtain⟨x,y,hop,hx,hy⟩:=Bw ho
  obtain⟨b',e',hb⟩:=hs.q _ (cj hp)
  cases e'
  have hc:=hv s hs
  have hl':=Nat.eq_of_beq_eq_true hl
  have hr:=tF (P:=P) (v:=v) ht hb (by rw[hc];simpa using hl') (by simpa using Nat.le_of_ble_eq_true hfit) (by rw[hc];exact h1 s hs)
  refine⟨⟨_,s.fz⟩,?_,Holds.upd ok (Holds.out hs hp) (w':=s.w.setRow b (EV vs off cs).toArray) (setRow_size ..) rfl rfl rfl (λk _ hk=>setRow_other _ _ _ _ (λe=>hk (by subst e;simp[bH,qQ]))) rfl ⟨b,rfl,setRow_heap _ _ _ _ _ _ hb⟩⟩
  unfold execOp
  rw[hop]
  simp only[hx,hy]
  simp only[Sem.run_bind,hr,Result.andThen_ok,Sem.run_pure,EV,hl',hc]) g
theorem B8{α:Type}{cur new:List α}{a k m:Nat}(hm:a+k≤m)(hn:new.length=k)(hc:m≤cur.length):((cur.take m).take a++new++(cur.take m).drop (a+k))=(cur.take a++new++cur.drop (a+k)).take m:=by
 apply List.ext_getElem?
 intro j
 simp only[List.getElem?_take,List.getElem?_append,List.length_append,List.length_take,hn,List.getElem?_drop]
 have e1:min a cur.length=a:=by omega
 have e2:min a (min m cur.length)=a:=by omega
 rw[e1,e2]
 by_cases hj:j<m
 ·simp only[hj,if_true]
  by_cases h2:j<a+k
  ·simp only[h2,if_true]
  ·simp only[h2,if_false]
   rw[if_pos (by omega)]
 ·simp only[hj,if_false]
  rw[if_neg (by omega),if_neg (by omega)]
theorem kQ{α:Type}{kd:Kd α}{t e:TypeId}{agg:Bool}{by_:Nat}{z v w:Value}{m:Nat}{xs ys:List α}{x0:α}(j:Nat)(gh:kd.G)(hp:pick H j=some (bE kd e v xs))(hm:m<xs.length)(hy:ys=xs.set m x0)(h:dec n ops E i Lb=some (t,dp v (m*kd.size),w))(ht:dR P t=some (agg,kd.size,by_,z))
  (hv':pQ H w (kd.cells x0 gh)) (hi:∀s,Holds s H→∀a∈kd.items x0 gh,a.q s)
  (g:WI P n ops (i+1) Q (E.putO (eX ops i) undef) (bE kd e v ys::ct H j)):WI P n ops i Q E H :=
 HY h (λo ho s ok hs=>by
  subst hy
  obtain⟨x,y,hop,hx,hy⟩:=Bw ho
  have hv:w.cells.toList=kd.cells x0 gh:=by rw[hv' s hs]
  obtain⟨A,c,rfl,hnc,hcm,hlen,hown⟩:=hs.q _ (cj hp)
  have hc0:0<c:=by omega
  obtain⟨b,cur,cs,rfl,hh,hsz,htk,hrow⟩:=hown hc0
  have hvl:w.cells.size=kd.size:=by rw[←Array.length_toList,hv,kd.len]
  have hfit:m*kd.size+kd.size≤xs.length*kd.size:=by
   have:=Nat.mul_le_mul_right kd.size (show m+1≤xs.length from hm)
   rw[Nat.add_mul] at this;omega
  have hfit2:xs.length*kd.size≤cur.size:=by rw[hsz];exact Nat.mul_le_mul_right _ hnc
  have hr:=tF (P:=P) (off:=m*kd.size) ht hh hvl (by omega) (by rw[hv];exact kd.one s x0 gh (hi s hs))
  have hrd:kd.rd s x0 (kd.cells x0 gh):=⟨gh,rfl,hi s hs⟩
  have hx':E.ev x=.pointer (some ⟨b,m*kd.size,none⟩):=by rw[hx];show Value.pointer (some ((⟨b,0,none⟩:Addr).add _))=_;rw[oJ,Nat.zero_add]
  have hbs:(bE kd e (.slice (some ⟨b,0,none⟩) xs.length c) xs).bs=[b]:=by show qQ (.slice (some ⟨b,0,none⟩) xs.length c)=[b];match c,hc0 with | _+1,_=>rfl
  have hle:Le s ⟨s.w.setRow b (cur.toList.take (m*kd.size)++kd.cells x0 gh++cur.toList.drop (m*kd.size+kd.size)).toArray,s.fz⟩ :=
   ⟨rfl,rfl,rfl,Nat.le_of_eq (setRow_size ..).symm,λk hk=>⟨hk,setRow_other _ _ _ _ (λe=>((Holds.out hs hp).own b (by rw[eB,List.flatMap_cons,hbs];simp)).2 (e▸hk))⟩⟩
  refine⟨⟨_,s.fz⟩,?_,Holds.upd ok (Holds.out hs hp) (w':=s.w.setRow b (cur.toList.take (m*kd.size)++kd.cells x0 gh++cur.toList.drop (m*kd.size+kd.size)).toArray) (setRow_size ..) rfl rfl rfl
   (λk _ hk=>setRow_other _ _ _ _ (λe=>hk (by rw[hbs,e];simp))) rfl ?_⟩
  ·unfold execOp
   rw[hop]
   simp only[hx',hy]
   simp only[Sem.run_bind,hr,Result.andThen_ok,Sem.run_pure,hv]
  ·have hrow':=(hrow.set hm hrd).mono hle
   have hl1:(kd.cells x0 gh).length=kd.size:=kd.len ..
   refine⟨_,c,by rw[List.length_set],by simpa using hnc,hcm,by simpa using hlen,λ_=>⟨b,_,_,rfl,setRow_heap _ _ _ _ _ _ hh,?_,?_,hrow'⟩⟩
   ·simp only[List.size_toArray,List.length_append,List.length_take,List.length_drop,Array.length_toList,hl1];omega
   ·rw[←htk,List.length_set]
    exact(B8 hfit hl1 (by simpa using hfit2)).symm) g
theorem gR{α:Type}{kd:Kd α}{x:α}{g:kd.G}(h:kd.items x g=[]):∀s,Holds s H→∀a∈kd.items x g,a.q s:=λ_ _ a ha=>by rw[h] at ha;cases ha
theorem mU{α:Type}{kd:Kd α}{v:Value}{xs:List α}(j:Nat)(hp:pick H j=some (rm kd v xs)):∀s,Holds s H→∀a∈(Kd.sl kd).items xs v,a.q s:=λ_ hs a ha=>by
 rw[List.mem_singleton.1 ha];exact hs.q _ (cj hp)
theorem CK{α β:Type}{k:Kd α}{l:Kd β}{x:α×β}{g:k.G}{g':l.G}(h1:∀s,Holds s H→∀a∈k.items x.1 g,a.q s)(h2:∀s,Holds s H→∀a∈l.items x.2 g',a.q s):∀s,Holds s H→∀a∈(Kd.pair k l).items x (g,g'),a.q s:=λs hs a ha =>
 (List.mem_append.1 ha).elim (h1 s hs a) (h2 s hs a)
theorem GB{α β:Type}{k:Kd α}{f:β→α}{x:β}{g:k.G}(h:∀s,Holds s H→∀a∈k.items (f x) g,a.q s):∀s,Holds s H→∀a∈(Kd.co k f).items x g,a.q s:=h
theorem Ps{x:Value}{g:Kd.raw.G}(h:∀s,Holds s H→x.oneCell'=true):∀s,Holds s H→∀a∈Kd.raw.items x g,a.q s:=λs hs a ha=>by rw[List.mem_singleton.1 ha];exact h s hs
end
end Gw
