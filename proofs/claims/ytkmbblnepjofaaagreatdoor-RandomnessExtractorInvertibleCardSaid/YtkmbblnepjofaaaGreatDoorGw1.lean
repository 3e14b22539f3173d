/- Own words: how data lie in memory (kinds); frozen and owned slices, told by the slice's header as a value; boxes. -/
import Derived.Test.YtkmbblnepjofaaaGreatDoorGv2
import Derived.Test.YtkmbblnepjofaaaGreatDoorWd
import Derived.Laws.CopyOwn
import Derived.Laws.CopyRow
import Derived.Laws.IdiomCopy
import Derived.Laws.Externs
set_option linter.unusedVariables false
namespace Gw
open Go Gv

/-- How a datum lies in `size` cells: with ghosts G, its cells, and what else holds (persistent). -/
structure Kd (α:Type) where
  size:Nat
  G:Type
  cells:α→G→List Value
  items:α→G→List aC
  len:∀ x g,(cells x g).length=size
  pers:∀ x g,∀ a ∈ items x g,a.bs=[]
  one:∀ s x g,(∀ a ∈ items x g,a.q s)→∀ v ∈ cells x g,v.oneCell'=true

def Kd.rd {α:Type} (k:Kd α) (s:St) (x:α) (cs:List Value):Prop:=∃ g,cs=k.cells x g∧∀ a ∈ k.items x g,a.q s

theorem Kd.mono {α:Type} (kd:Kd α) {a b:St} {x:α} {cs:List Value} (h:Le a b) (r:kd.rd a x cs):kd.rd b x cs:=by
  obtain ⟨g,hc,hi⟩:=r
  exact ⟨g,hc,fun y hy=>y.st a b h (fun k hk=>by rw [kd.pers x g y hy] at hk;cases hk) (hi y hy)⟩
theorem Kd.length {α:Type} (kd:Kd α) {s:St} {x:α} {cs:List Value} (r:kd.rd s x cs):cs.length=kd.size:=by
  obtain ⟨g,rfl,_⟩:=r;exact kd.len x g
theorem Kd.one' {α:Type} (kd:Kd α) {s:St} {x:α} {cs:List Value} (r:kd.rd s x cs):∀ v ∈ cs,v.oneCell'=true:=by
  obtain ⟨g,rfl,h⟩:=r;exact kd.one s x g h

/-- A kind of one cell without ghosts. -/
def Kd.plain {α:Type} (c:α→Value) (h:∀ x,(c x).oneCell'=true):Kd α :=
  { size:=1,G:=Unit,cells:=fun x _=>[c x],items:=fun _ _=>[],len:=fun _ _=>rfl,pers:=fun _ _ _ h=>(nomatch h),one:=fun _ x _ _ v hv=>by rw [List.mem_singleton] at hv;subst hv;exact h x }
def Kd.u64:Kd Nat:=Kd.plain (fun x=>.int .u64 x) (fun _=>rfl)
def Kd.i64:Kd Int:=Kd.plain (fun x=>.int .i64 x) (fun _=>rfl)
def Kd.u8:Kd Nat:=Kd.plain (fun x=>.int .u8 x) (fun _=>rfl)
def Kd.bool:Kd Bool:=Kd.plain (fun x=>.bool x) (fun _=>rfl)
/-- A cell that is told by its very value. -/
def Kd.raw:Kd Value :=
  { size:=1,G:=Unit,cells:=fun x _=>[x],items:=fun x _=>[pr (fun _=>x.oneCell'=true) (fun _ _ _ h=>h)],len:=fun _ _=>rfl,pers:=fun _ _ a h=>(by rw [List.mem_singleton] at h;subst h;rfl),
    one:=fun s x _ h v hv=>by rw [List.mem_singleton] at hv;subst hv;exact h _ (List.mem_singleton.2 rfl) }
/-- No cell. -/
def Kd.unit:Kd Unit:={ size:=0,G:=Unit,cells:=fun _ _=>[],items:=fun _ _=>[],len:=fun _ _=>rfl,pers:=fun _ _ _ h=>(nomatch h),one:=fun _ _ _ _ _ h=>nomatch h }
/-- Two data in a row. -/
def Kd.pair {α β:Type} (k:Kd α) (l:Kd β):Kd (α × β) :=
  { size:=k.size+l.size,G:=k.G × l.G,cells:=fun x g=>k.cells x.1 g.1++l.cells x.2 g.2,items:=fun x g=>k.items x.1 g.1++l.items x.2 g.2
    len:=fun x g=>by rw [List.length_append,k.len,l.len]
    pers:=fun x g a h=>(List.mem_append.1 h).elim (k.pers _ _ a) (l.pers _ _ a)
    one:=fun s x g h v hv=>(List.mem_append.1 hv).elim (k.one s x.1 g.1 (fun a ha=>h a (List.mem_append_left _ ha)) v) (l.one s x.2 g.2 (fun a ha=>h a (List.mem_append_right _ ha)) v) }
/-- A datum told by another. -/
def Kd.co {α β:Type} (k:Kd α) (f:β→α):Kd β :=
  { size:=k.size,G:=k.G,cells:=fun x g=>k.cells (f x) g,items:=fun x g=>k.items (f x) g,len:=fun x g=>k.len (f x) g,pers:=fun x g=>k.pers (f x) g,one:=fun s x g=>k.one s (f x) g }

/-- A row of cells reads as a list. -/
def bV {α:Type} (kd:Kd α) (s:St):List α→List Value→Prop
  | [],cs=>cs=[]
  | x :: xs,cs=>∃ c r,cs=c++r∧kd.rd s x c∧bV kd s xs r

section
variable {α:Type} {kd:Kd α}
theorem bV.mono {a b:St} (h:Le a b):∀ {xs:List α} {cs:List Value},bV kd a xs cs→bV kd b xs cs
  | [],_,r=>r
  | _ :: _,_,⟨c,r,e,hc,hr⟩=>⟨c,r,e,kd.mono h hc,bV.mono h hr⟩
theorem bV.length {s:St}:∀ {xs:List α} {cs:List Value},bV kd s xs cs→cs.length=xs.length*kd.size
  | [],_,r=>by simp only [bV] at r;subst r;simp
  | x :: xs,_,⟨c,r,e,hc,hr⟩=>by subst e;simp only [List.length_append,List.length_cons,hr.length,kd.length hc,Nat.add_mul];omega
theorem bV.append {s:St}:∀ {xs ys:List α} {cs ds:List Value},bV kd s xs cs→bV kd s ys ds→bV kd s (xs++ys) (cs++ds)
  | [],_,_,_,r,g=>by simp only [bV] at r;subst r;exact g
  | _ :: _,_,_,_,⟨c,r,e,hc,hr⟩,g=>by subst e;exact ⟨c,r++_,by simp,hc,hr.append g⟩
theorem bV.one {s:St}:∀ {xs:List α} {cs:List Value},bV kd s xs cs→∀ v ∈ cs,v.oneCell'=true
  | [],_,r=>by simp only [bV] at r;subst r;intro v h;cases h
  | _ :: _,_,⟨c,r,e,hc,hr⟩=>by
    subst e;intro v h
    rcases List.mem_append.1 h with h | h
    · exact kd.one' hc v h
    · exact hr.one v h
/-- Its m-th element. -/
theorem bV.get {s:St}:∀ {xs:List α} {cs:List Value} {m:Nat} {x:α},bV kd s xs cs→xs[m]?=some x→∃ c,kd.rd s x c∧∀ j u,c[j]?=some u→cs[m*kd.size+j]?=some u
  | [],_,_,_,_,h=>by simp at h
  | y :: xs,_,0,x,⟨c,r,e,hc,hr⟩,h=>by
    simp at h;subst h;subst e
    refine ⟨c,hc,fun j u hu=>?_⟩
    have:j < c.length:=(List.getElem?_eq_some_iff.1 hu).1
    rw [Nat.zero_mul,Nat.zero_add,List.getElem?_append_left this,hu]
  | y :: xs,_,m+1,x,⟨c,r,e,hc,hr⟩,h=>by
    subst e
    obtain ⟨c',hc',hg⟩:=hr.get (m:=m) (by simpa using h)
    refine ⟨c',hc',fun j u hu=>?_⟩
    have hl:=kd.length hc
    have e:(m+1)*kd.size+j=c.length+(m*kd.size+j):=by rw [hl,Nat.add_mul];omega
    rw [e,List.getElem?_append_right (by omega)]
    simpa using hg j u hu
/-- Another element in the m-th's place. -/
theorem bV.set {s:St}:∀ {xs:List α} {cs:List Value} {m:Nat} {x:α} {c:List Value},bV kd s xs cs→m < xs.length→kd.rd s x c →
    bV kd s (xs.set m x) (cs.take (m*kd.size)++c++cs.drop (m*kd.size+kd.size))
  | [],_,_,_,_,_,h,_=>by simp at h
  | y :: xs,_,0,x,c,⟨c0,r,e,hc,hr⟩,_,hx=>by
    subst e
    have hl:=kd.length hc
    refine ⟨c,r,?_,hx,hr⟩
    simp [← hl]
  | y :: xs,_,m+1,x,c,⟨c0,r,e,hc,hr⟩,h,hx=>by
    subst e
    have hl:=kd.length hc
    refine ⟨c0,_,?_,hc,hr.set (m:=m) (by simpa using h) hx⟩
    have e1:(m+1)*kd.size=c0.length+m*kd.size:=by rw [hl,Nat.add_mul];omega
    rw [e1,List.take_length_add_append,Nat.add_assoc,List.drop_length_add_append]
    simp
theorem bV.take {s:St}:∀ {xs:List α} {cs:List Value} (m:Nat),bV kd s xs cs→bV kd s (xs.take m) (cs.take (m*kd.size))
  | [],_,m,r=>by simp only [bV] at r;subst r;simp [bV]
  | y :: xs,_,0,_=>by simp [bV]
  | y :: xs,_,m+1,⟨c0,r,e,hc,hr⟩=>by
    subst e
    have hl:=kd.length hc
    refine ⟨c0,r.take (m*kd.size),?_,hc,hr.take m⟩
    have e1:(m+1)*kd.size=c0.length+m*kd.size:=by rw [hl,Nat.add_mul];omega
    rw [e1,List.take_length_add_append]
theorem bV.drop {s:St}:∀ {xs:List α} {cs:List Value} (m:Nat),bV kd s xs cs→bV kd s (xs.drop m) (cs.drop (m*kd.size))
  | [],_,m,r=>by simp only [bV] at r;subst r;simp [bV]
  | y :: xs,_,0,h=>by simpa using h
  | y :: xs,_,m+1,⟨c0,r,e,hc,hr⟩=>by
    subst e
    have hl:=kd.length hc
    have e1:(m+1)*kd.size=c0.length+m*kd.size:=by rw [hl,Nat.add_mul];omega
    rw [e1,List.drop_length_add_append]
    exact hr.drop m
theorem bV.replicate {s:St} {x:α} {c:List Value} (h:kd.rd s x c):∀ n,bV kd s (List.replicate n x) (List.replicate n c).flatten
  | 0=>by simp [bV]
  | n+1=>⟨c,(List.replicate n c).flatten,by simp [List.replicate_succ],h,bV.replicate h n⟩
theorem bV.single {s:St} {x:α} {c:List Value} (h:kd.rd s x c):bV kd s [x] c:=⟨c,[],by simp,h,rfl⟩
end

/- ---- a frozen slice -/
def yg {α:Type} (kd:Kd α) (s:St) (A:Option Addr) (c:Nat) (xs:List α):Prop :=
  xs.length≤c∧c≤9223372036854775807∧xs.length≤140737488355328 ∧
  (xs=[] ∨ ∃ b off arr e f cs,A=some ⟨b,off,none⟩∧s.fz b∧s.w.heap[b]?=some (.cells arr e f)∧bV kd s xs cs∧∀ j u,cs[j]?=some u→arr[off+j]?=some u)
theorem yg.mono {α:Type} {kd:Kd α} {a b:St} {A:Option Addr} {c:Nat} {xs:List α} (h:Le a b) (r:yg kd a A c xs):yg kd b A c xs:=by
  obtain ⟨h1,h2,h3,h4⟩:=r
  refine ⟨h1,h2,h3,?_⟩
  rcases h4 with h4 | ⟨g,off,arr,e,f,cs,hA,hf,hh,hr,hc⟩
  · exact .inl h4
  · exact .inr ⟨g,off,arr,e,f,cs,hA,(h.fz g hf).1,(h.fz g hf).2.trans hh,hr.mono h,hc⟩
theorem yg.nil {α:Type} (kd:Kd α) (s:St) (A:Option Addr) (c:Nat) (hc:c≤9223372036854775807):yg kd s A c []:=⟨Nat.zero_le _,hc,Nat.zero_le _,.inl rfl⟩
/-- The slice v reads as xs, and nobody writes it any more. -/
def nt {α:Type} (kd:Kd α) (v:Value) (xs:List α):aC :=
  pr (fun s=>∃ A c,v=.slice A xs.length c∧yg kd s A c xs) (fun _ _ h ⟨A,c,e,r⟩=>⟨A,c,e,r.mono h⟩)
def Kd.sl {α:Type} (kd:Kd α):Kd (List α) :=
  { size:=1,G:=Value,cells:=fun _ g=>[g],items:=fun xs g=>[nt kd g xs],len:=fun _ _=>rfl,pers:=fun _ _ _ h=>(by rw [List.mem_singleton] at h;subst h;rfl),
    one:=fun s xs g h v hv=>by
      rw [List.mem_singleton] at hv;subst hv
      obtain ⟨A,c,e,_⟩:=h _ (List.mem_singleton.2 rfl)
      rw [e];rfl }
/-- The slice v has no room beyond its end. -/
def Ao (v:Value):aC:=pr (fun _=>∃ A n,v=.slice A n n) (fun _ _ _ h=>h)

/- ---- an owned slice -/
def nQ:Value→List Nat
  | .slice (some a) _ c=>match c with | 0=>[] | _+1=>[a.block]
  | .pointer (some a)=>[a.block]
  | .map (some r)=>[r]
  | _=>[]
def Ha {α:Type} (kd:Kd α) (e:TypeId) (s:St) (A:Option Addr) (c:Nat) (xs:List α):Prop :=
  ∃ g cur cs,A=some ⟨g,0,none⟩∧s.w.heap[g]?=some (.cells cur e (0,0))∧cur.size=c*kd.size∧cur.toList.take (xs.length*kd.size)=cs∧bV kd s xs cs
def EC {α:Type} (kd:Kd α) (e:TypeId) (s:St) (A:Option Addr) (c:Nat) (xs:List α):Prop :=
  xs.length≤c∧c≤maxLen∧xs.length≤140737488355328∧(0 < c→Ha kd e s A c xs)
theorem EC.st {α:Type} {kd:Kd α} {e:TypeId} {a b:St} {A:Option Addr} {c n:Nat} {xs:List α} (h:Le a b) (hb:∀ k ∈ nQ (.slice A n c),b.w.heap[k]?=a.w.heap[k]?) (r:EC kd e a A c xs):EC kd e b A c xs:=by
  obtain ⟨h1,h2,h3,h4⟩:=r
  refine ⟨h1,h2,h3,fun hc=>?_⟩
  obtain ⟨g,cur,cs,rfl,hh,hs,ht,hr⟩:=h4 hc
  refine ⟨g,cur,cs,rfl,?_,hs,ht,hr.mono h⟩
  rw [hb g (by match c,hc with | _+1,_=>simp [nQ])];exact hh
/-- The slice v reads as xs, and it is ours alone. -/
def bb {α:Type} (kd:Kd α) (e:TypeId) (v:Value) (xs:List α):aC :=
  ⟨nQ v,fun s=>∃ A c,v=.slice A xs.length c∧EC kd e s A c xs,fun _ _ h hb ⟨A,c,hv,r⟩=>⟨A,c,hv,r.st (n:=xs.length) h (by rw [← hv];exact hb)⟩⟩

/-- Data that nobody writes any more. -/
def yQ (s:St) (bs:List Nat):St:=⟨s.w,fun k=>s.fz k ∨ k ∈ bs⟩
theorem yR (s:St) (bs:List Nat):Le s (yQ s bs):=⟨rfl,rfl,rfl,Nat.le_refl _,fun _ h=>⟨.inl h,rfl⟩⟩
theorem BW {x y:aC} {F:List aC} (hy:y.bs=[]) (hq:∀ s,x.q s→y.q (yQ s x.bs)):gI (x :: F) (y :: F):=fun s ok hs=>by
  refine ⟨yQ s x.bs,rfl,?_,?_⟩
  · intro k hk
    rcases hk with hk | hk
    · exact ok k hk
    · exact (hs.own k (by simp only [dN,List.flatMap_cons,List.mem_append];exact .inl hk)).1
  · have hs':Holds s ([x]++F):=hs
    refine Holds.chg (Y:=[y]) ok hs' ⟨rfl,rfl,rfl,Nat.le_refl _,fun _ _ _=>rfl,fun _ h=>.inl h,fun k _ hk h=>h.resolve_right (by simpa [dN] using hk)⟩ ?_ (by simp [dN,hy]) (by simp [dN,hy])
    intro z hz
    rw [List.mem_singleton] at hz;subst hz
    exact hq s (hs.q _ (List.mem_cons_self ..))
theorem gI.frz {α:Type} {kd:Kd α} {e:TypeId} {v:Value} {xs:List α} {F:List aC}:gI (bb kd e v xs :: F) (nt kd v xs :: F) :=
  BW rfl fun s ⟨A,c,hv,h1,h2,h3,h4⟩=>by
    refine ⟨A,c,hv,h1,by simp only [maxLen] at h2;omega,h3,?_⟩
    by_cases hc:0 < c
    · obtain ⟨g,cur,cs,rfl,hh,hs,ht,hr⟩:=h4 hc
      refine .inr ⟨g,0,cur,e,(0,0),cs,rfl,.inr ?_,hh,hr.mono (yR s _),fun j u hu=>?_⟩
      · show g ∈ nQ v
        rw [hv];match c,hc with | _+1,_=>simp [nQ]
      · rw [← ht,List.getElem?_take] at hu
        split at hu
        · simpa using hu
        · cases hu
    · exact .inl (List.eq_nil_of_length_eq_zero (by omega))

/- ---- a box: a block of cells behind a pointer -/
def a7 (p:Value) (e:TypeId) (vs:List Value):aC :=
  ⟨nQ p,fun s=>∃ b,p=.pointer (some ⟨b,0,none⟩)∧s.w.heap[b]?=some (.cells vs.toArray e (0,0)),fun _ _ _ hb ⟨b,e,r⟩=>⟨b,e,(hb b (by subst e;simp [nQ])).trans r⟩⟩
/-- A block that nobody writes, cell by cell. -/
def FV (b:Nat) (vs:List Value):aC:=pr (fun s=>s.fz b∧∃ e f,s.w.heap[b]?=some (.cells vs.toArray e f)) (fun _ _ h r=>by
  obtain ⟨h1,e,f,h2⟩:=r
  exact ⟨(h.fz b h1).1,e,f,(h.fz b h1).2.trans h2⟩)
/-- A plain fact. -/
def fact (q:Prop):aC:=pr (fun _=>q) (fun _ _ _ h=>h)

theorem bM {α:Type} {kd:Kd α} {e:TypeId} {H:List aC}:gI H (bb kd e (.slice none 0 0) ([]:List α) :: H) :=
  gI.add _ rfl fun _ _ _=>⟨none,0,rfl,Nat.le_refl _,Nat.zero_le _,Nat.zero_le _,fun h=>absurd h (Nat.lt_irrefl 0)⟩
theorem hU {α:Type} {kd:Kd α} {H:List aC}:gI H (nt kd (.slice none 0 0) ([]:List α) :: H) :=
  gI.add _ rfl fun s _ _=>⟨none,0,rfl,yg.nil kd s none 0 (by decide)⟩
end Gw
