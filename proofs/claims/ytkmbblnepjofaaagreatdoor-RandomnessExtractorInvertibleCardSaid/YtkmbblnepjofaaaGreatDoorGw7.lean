/- Own words: slices whose rows are owned too (trees), to any depth. -/
import Derived.Test.YtkmbblnepjofaaaGreatDoorGw6
set_option linter.unusedVariables false
namespace Gw
open Go Gv
/-- Results of several classes. -/
def D4 {A B X Y:Type} (f:A→X→Y→Prop) (g:B→X→Y→Prop) (o:A ⊕ B) (v:X) (L:Y):Prop:=match o with | .inl a=>f a v L | .inr b=>g b v L
theorem Gx {A B X Y:Type} {f:A→X→Y→Prop} {g:B→X→Y→Prop} {a:A} {v:X} {L:Y} (h:f a v L):D4 f g (.inl a) v L:=h
theorem Gy {A B X Y:Type} {f:A→X→Y→Prop} {g:B→X→Y→Prop} {b:B} {v:X} {L:Y} (h:g b v L):D4 f g (.inr b) v L:=h
theorem GK {A B α:Type} {f:A→Option α} {g:B→Option α} {a:A} {r:α} (h:D3 (.inl a) f g=some r):f a=some r:=h
theorem GL {A B α:Type} {f:A→Option α} {g:B→Option α} {b:B} {r:α} (h:D3 (.inr b) f g=some r):g b=some r:=h
def GA (v:Value):aC:=pr (fun _=>v.oneCell'=true) (fun _ _ _ h=>h)
/-- A cell of which nothing is told. -/
def Kd.any:Kd Unit :=
  { size:=1,G:=Value,cells:=fun _ g=>[g],items:=fun _ g=>[GA g],len:=fun _ _=>rfl,pers:=fun _ _ a h=>(by rw [List.mem_singleton] at h;subst h;rfl),
    one:=fun s x _ h v hv=>by rw [List.mem_singleton] at hv;subst hv;exact h _ (List.mem_singleton.2 rfl) }
/-- Several assertions as one. -/
def pR (L:List aC):aC:=⟨dN L,fun s=>∀ x ∈ L,x.q s,fun a b h hb hq x hx=>x.st a b h (fun k hk=>hb k (List.mem_flatMap.2 ⟨x,hx,hk⟩)) (hq x hx)⟩
/-- A kind of row: its ghost, its header, what it owns. -/
structure RK (α:Type) where
  hd:Value→Value
  A:Value→α→aC
abbrev cu {α:Type} (kd:Kd α) (e:TypeId):RK (List α):=⟨id,fun v x=>bb kd e v x⟩
/-- A tree's ghost as one value: its header and its rows' ghosts. -/
def tw (v:Value) (gs:List Value):Value:=.tuple ⟨v :: gs⟩
def th (w:Value):Value:=match w with | .tuple ⟨v :: _⟩=>v | _=>.slice none 0 0
def tg (w:Value):List Value:=match w with | .tuple ⟨_ :: gs⟩=>gs | _=>[]
/-- the rows' assertions, one emp where m is -/
def bX {α:Type} (R:RK α):List Value→List α→List aC
  | g :: gs,x :: xs=>R.A g x :: bX R gs xs
  | _,_=>[]
def bK {α:Type} (R:RK α) (e:TypeId) (v:Value) (gs:List Value) (xs:List α):aC:=pR (fact (gs.length=xs.length) :: bb Kd.raw e v (gs.map R.hd) :: bX R gs xs)
def lK {α:Type} (R:RK α) (e:TypeId) (v:Value) (gs:List Value) (xs:List α) (m:Nat):aC:=pR (fact (gs.length=xs.length) :: bb Kd.raw e v (gs.map R.hd) :: (bX R gs xs).set m pE)
section
variable {H:List aC}
theorem pc (x:aC) (L:List aC):dN (x :: L)=x.bs++dN L:=by simp [dN]
theorem p9 (L M:List aC):dN (L++M)=dN L++dN M:=by simp [dN]
theorem Holds.big {s:St} {L:List aC}:Holds s (pR L :: H) ↔ Holds s (L++H):=by
  constructor
  · intro h
    refine ⟨fun x hx=>?_,fun k hk=>?_,?_⟩
    · rcases List.mem_append.1 hx with hx | hx
      · exact h.q (pR L) (List.mem_cons_self ..) x hx
      · exact h.q x (List.mem_cons_of_mem _ hx)
    · exact h.own k (by rw [pc];rw [p9] at hk;exact hk)
    · have:=h.nd;rw [pc] at this;rw [p9];exact this
  · intro h
    refine ⟨fun x hx=>?_,fun k hk=>?_,?_⟩
    · rcases List.mem_cons.1 hx with rfl | hx
      · exact fun y hy=>h.q y (List.mem_append_left _ hy)
      · exact h.q x (List.mem_append_right _ hx)
    · exact h.own k (by rw [p9];rw [pc] at hk;exact hk)
    · have:=h.nd;rw [p9] at this;rw [pc];exact this
theorem Holds.empI {s:St} (h:Holds s H):Holds s (pE :: H):=h.consPr rfl trivial
theorem set_perm:∀ {L:List aC} {m:Nat} {a b:aC},L[m]?=some a→(b :: L).Perm (a :: L.set m b)
  | x :: L,0,a,b,h=>by simp at h;subst h;exact List.Perm.swap ..
  | x :: L,m+1,a,b,h=>by
    have ih:=set_perm (L:=L) (m:=m) (a:=a) (b:=b) (by simpa using h)
    show (b :: x :: L).Perm (a :: x :: L.set m b)
    exact (List.Perm.swap x b L).trans ((ih.cons x).trans (List.Perm.swap a x _))
theorem tU {s:St} {L:List aC} {m:Nat} {a:aC} (h:L[m]?=some a) (hs:Holds s (pR L :: H)):Holds s (a :: pR (L.set m pE) :: H):=by
  have h1:=Holds.empI (Holds.big.1 hs)
  have p:(pE :: (L++H)).Perm (L.set m pE++(a :: H)):=by
    have q:=(set_perm (b:=pE) h).append_right H
    exact q.trans (List.perm_middle (l₁:=L.set m pE) (l₂:=H) (a:=a)).symm
  exact (Holds.big.2 (h1.perm p)).perm (List.Perm.swap ..)
theorem vS {s:St} {L:List aC} {m:Nat} {a:aC} (h:L[m]?=some pE) (hs:Holds s (a :: pR L :: H)):Holds s (pR (L.set m a) :: H):=by
  have h1:=Holds.big.1 (hs.perm (List.Perm.swap ..))
  have p:(L++(a :: H)).Perm (pE :: (L.set m a++H)):=by
    have q:=(set_perm (b:=a) h).append_right H
    exact (List.perm_middle (l₁:=L) (l₂:=H) (a:=a)).trans q
  exact Holds.big.2 (h1.perm p).tail
end
theorem lm {α:Type} {R:RK α}:∀ {gs:List Value} {xs:List α} {m:Nat} {g:Value} {x:α},gs[m]?=some g→xs[m]?=some x→(bX R gs xs)[m]?=some (R.A g x)
  | [],_,_,_,_,h,_=>by simp at h
  | _ :: _,[],_,_,_,_,h=>by simp at h
  | g0 :: gs,x0 :: xs,0,g,x,h1,h2=>by simp at h1 h2;subst h1;subst h2;rfl
  | g0 :: gs,x0 :: xs,m+1,g,x,h1,h2=>by
    show (bX R gs xs)[m]?=_
    exact lm (by simpa using h1) (by simpa using h2)
theorem nk {α:Type} {R:RK α}:∀ {gs:List Value} {xs:List α} {m:Nat} {g:Value} {x:α},m < gs.length→m < xs.length→bX R (gs.set m g) (xs.set m x)=(bX R gs xs).set m (R.A g x)
  | [],_,_,_,_,h,_=>by simp at h
  | _ :: _,[],_,_,_,_,h=>by simp at h
  | g0 :: gs,x0 :: xs,0,g,x,_,_=>rfl
  | g0 :: gs,x0 :: xs,m+1,g,x,h1,h2=>by
    show R.A g0 x0 :: bX R (gs.set m g) (xs.set m x)=R.A g0 x0 :: (bX R gs xs).set m (R.A g x)
    rw [nk (by simpa using h1) (by simpa using h2)]
theorem rh {α:Type} {R:RK α}:∀ {gs:List Value} {xs:List α},gs.length=xs.length→(bX R gs xs).length=xs.length
  | [],[],_=>rfl
  | [],_ :: _,h=>by simp at h
  | _ :: _,[],h=>by simp at h
  | _ :: gs,_ :: xs,h=>by show (bX R gs xs).length+1=xs.length+1;rw [rh (by simpa using h)]
/-- What H tells of. -/
def rr (H:List aC) (A:aC):Prop:=∀ s,Holds s H→A.q s
section
variable {P:Program} {n:Nat} {Q:b7} {E:Env} {H F:List aC} {ops:pp} {i:Nat}
theorem bi {A:aC} (j:Nat) (hp:pick H j=some A):rr H A:=fun _ hs=>hs.q _ (bp hp)
theorem sB {α:Type} {R:RK α} {e:TypeId} {v:Value} {gs:List Value} {xs:List α} (h:rr H (bK R e v gs xs)):∀ s,Holds s H→gs.length=xs.length:=fun s hs=>h s hs (fact (gs.length=xs.length)) (List.mem_cons_self ..)
theorem tr {α:Type} {R:RK α} {e:TypeId} {v:Value} {gs:List Value} {xs:List α} (h:rr H (bK R e v gs xs)):rr H (bb Kd.raw e v (gs.map R.hd)):=fun s hs=>h s hs (bb Kd.raw e v (gs.map R.hd)) (List.mem_cons_of_mem _ (List.mem_cons_self ..))
theorem nf {α:Type} {R:RK α} {e:TypeId} {v:Value} {gs:List Value} {xs:List α} {m:Nat} {g:Value} {x:α} (h:rr H (bK R e v gs xs)) (hg:gs[m]?=some g) (hx:xs[m]?=some x):rr H (R.A g x):=fun s hs =>
  h s hs (R.A g x) (List.mem_cons_of_mem _ (List.mem_cons_of_mem _ (List.mem_of_getElem? (lm hg hx))))
theorem Gs {α:Type} {R:RK α} {e:TypeId} {v:Value} {gs:List Value} {xs:List α} {m:Nat} (h:rr H (lK R e v gs xs m)):∀ s,Holds s H→gs.length=xs.length:=fun s hs=>h s hs (fact (gs.length=xs.length)) (List.mem_cons_self ..)
theorem rK {α:Type} {R:RK α} {e:TypeId} {v:Value} {gs:List Value} {xs:List α} {m:Nat} (h:rr H (lK R e v gs xs m)):rr H (bb Kd.raw e v (gs.map R.hd)):=fun s hs=>h s hs (bb Kd.raw e v (gs.map R.hd)) (List.mem_cons_of_mem _ (List.mem_cons_self ..))
theorem uv {α:Type} {kd:Kd α} {e:TypeId} {v:Value} {xs:List α} (h:rr H (bb kd e v xs)):ra H v xs.length:=fun s hs=>by
  obtain ⟨A,c,hv,h1,_,_,h⟩:=h s hs
  refine ⟨A,c,hv,fun h0=>?_⟩
  obtain ⟨g,_,_,rfl,_⟩:=h (by omega)
  rfl
theorem af {α:Type} {R:RK α} {e:TypeId} {v:Value} {gs:List Value} {xs:List α} (h:rr H (bK R e v gs xs)):ra H v xs.length:=fun s hs=>by
  have:=uv (tr h) s hs
  rw [List.length_map,sB h s hs] at this;exact this
theorem yV {α:Type} {R:RK α} {e:TypeId} {v:Value} {gs:List Value} {xs:List α} {m:Nat} (h:rr H (lK R e v gs xs m)):ra H v xs.length:=fun s hs=>by
  have:=uv (rK h) s hs
  rw [List.length_map,Gs h s hs] at this;exact this
theorem zu {α:Type} {kd:Kd α} {e:TypeId} {v:Value} {xs:List α} (h:rr H (bb kd e v xs)):∀ s,Holds s H→xs.length < 9223372036854775807:=fun s hs=>by
  obtain ⟨A,c,_,_,_,h,_⟩:=h s hs;omega
theorem yd {α:Type} {R:RK α} {e:TypeId} {v:Value} {gs:List Value} {xs:List α} (h:rr H (bK R e v gs xs)):∀ s,Holds s H→xs.length < 9223372036854775807:=fun s hs=>by
  have:=zu (tr h) s hs
  rw [List.length_map,sB h s hs] at this;exact this
/-- A load of an element of what is owned somewhere. -/
theorem mj {α:Type} {kd:Kd α} {e t:TypeId} {agg:Bool} {sz by_:Nat} {z v:Value} {m:Nat} {xs:List α} {x0:α} (off:Nat) (hp:rr H (bb kd e v xs)) (hm:xs[m]?=some x0) (h:dec n ops E i xI=some (t,(cw v (m*kd.size)).add off))
    (ht:cM P t=some (agg,sz,by_,z)) (h1:(agg || Nat.beq sz 1)=true) (hfit:Nat.ble (off+sz) kd.size=true)
    (g:∀ g,WI P n ops (i+1) Q (E.putO (dM ops i) (valOf agg (((kd.cells x0 g).drop off).take sz))) (kd.items x0 g++H)):WI P n ops i Q E H :=
  zZ h ht h1 (fun s ok hs=>by
    obtain ⟨A,c,rfl,hq⟩:=hp s hs
    obtain ⟨g,hi,hc⟩:=tz (N:=xs.length) (C:=c) hq hm
    refine ⟨g,?_,fun k u hu=>?_,Holds.items hs hi⟩
    · have:=Nat.le_of_ble_eq_true hfit;rw [List.length_take,List.length_drop,kd.len];omega
    · have:=hc _ u (pk hu)
      rwa [Addr.add_add]) g
/-- A load of a row's header. -/
theorem Fu {α:Type} {R:RK α} {e t:TypeId} {by_:Nat} {z v:Value} {m:Nat} {gs:List Value} {xs:List α} {x:α} (ho:rr H (bb Kd.raw e v (gs.map R.hd))) (hl:∀ s,Holds s H→gs.length=xs.length) (hm:xs[m]?=some x) (h:dec n ops E i xI=some (t,cw v (m*1)))
    (ht:cM P t=some (false,1,by_,z)) (g:∀ g,gs[m]?=some g→WI P n ops (i+1) Q (E.putO (dM ops i) (R.hd g)) H):WI P n ops i Q E H:=fun s ok hs=>by
  have hlt:m < gs.length:=by rw [hl s hs];exact (List.getElem?_eq_some_iff.1 hm).1
  have hg:gs[m]?=some gs[m]:=List.getElem?_eq_getElem hlt
  refine mj (kd:=Kd.raw) (e:=e) (off:=0) (sz:=1) (agg:=false) (x0:=R.hd gs[m]) ho (by rw [List.getElem?_map,hg];rfl) (by rw [Addr.add_zero'];exact h) ht rfl rfl (fun _=>?_) s ok hs
  exact WI.ent (fun s ok hs=>⟨s,rfl,ok,hs.tail⟩) (g gs[m] hg)
theorem CV {α:Type} {R:RK α} {e t:TypeId} {by_:Nat} {z v:Value} {m:Nat} {gs:List Value} {xs:List α} {x:α} (ho:rr H (bK R e v gs xs)) (hm:xs[m]?=some x) (h:dec n ops E i xI=some (t,cw v (m*1)))
    (ht:cM P t=some (false,1,by_,z)) (g:∀ g,gs[m]?=some g→WI P n ops (i+1) Q (E.putO (dM ops i) (R.hd g)) H):WI P n ops i Q E H:=Fu (tr ho) (sB ho) hm h ht g
/-- A row is taken out of a tree. -/
theorem Ck {α:Type} {R:RK α} {e:TypeId} {v:Value} {gs:List Value} {xs:List α} {m:Nat} {g:Value} {x:α} {s:St} (hs:Holds s (bK R e v gs xs :: H)) (hg:gs[m]?=some g) (hx:xs[m]?=some x):Holds s (R.A g x :: lK R e v gs xs m :: H):=by
  have hr:=lm (R:=R) hg hx
  exact tU (L:=fact (gs.length=xs.length) :: bb Kd.raw e v (gs.map R.hd) :: bX R gs xs) (m:=m+2) (by simpa using hr) hs
theorem gC {α:Type} {R:RK α} {e:TypeId} {v:Value} {gs:List Value} {xs:List α} {m:Nat} {g:Value} {x:α} (j:Nat) (hp:pick H j=some (bK R e v gs xs)) (hg:gs[m]?=some g) (hx:xs[m]?=some x):gI H (R.A g x :: lK R e v gs xs m :: bo H j):=fun s ok hs=>by
  have h1:=Holds.out hs hp
  have hr:=lm (R:=R) hg hx
  refine ⟨s,rfl,ok,?_⟩
  exact tU (L:=fact (gs.length=xs.length) :: bb Kd.raw e v (gs.map R.hd) :: bX R gs xs) (m:=m+2) (by simpa using hr) h1
theorem zT {α:Type} {R:RK α} {e:TypeId} {v:Value} {gs:List Value} {xs:List α} {m:Nat} {g g':Value} {x:α} {s:St} (h1:Holds s (R.A g' x :: lK R e v gs xs m :: H)) (hg:gs[m]?=some g) (hh:R.hd g'=R.hd g):Holds s (bK R e v (gs.set m g') (xs.set m x) :: H):=by
  have hlen:gs.length=xs.length:=h1.q (lK R e v gs xs m) (List.mem_cons_of_mem _ (List.mem_cons_self ..)) (fact (gs.length=xs.length)) (List.mem_cons_self ..)
  have hlt:m < gs.length:=(List.getElem?_eq_some_iff.1 hg).1
  have h2:=vS (L:=fact (gs.length=xs.length) :: bb Kd.raw e v (gs.map R.hd) :: (bX R gs xs).set m pE) (m:=m+2) (a:=R.A g' x) (by
    show ((bX R gs xs).set m pE)[m]?=some pE
    rw [List.getElem?_set_self (by rw [rh hlen];omega)]) h1
  have e1:(gs.set m g').map R.hd=gs.map R.hd:=by
    rw [List.map_set,hh]
    have:R.hd g=(gs.map R.hd)[m]'(by simpa using hlt):=by rw [List.getElem_map];rw [List.getElem?_eq_getElem hlt] at hg;cases hg;rfl
    rw [this,List.set_getElem_self]
  have e2:bK R e v (gs.set m g') (xs.set m x)=pR ((fact (gs.length=xs.length) :: bb Kd.raw e v (gs.map R.hd) :: (bX R gs xs).set m pE).set (m+2) (R.A g' x)):=by
    unfold bK
    rw [e1,nk hlt (by omega),List.length_set,List.length_set,List.set_cons_succ,List.set_cons_succ,List.set_set]
  rw [e2];exact h2
/-- A row goes back, its header as it was. -/
theorem CS {α:Type} {R:RK α} {e:TypeId} {v:Value} {gs:List Value} {xs ys:List α} {m:Nat} {g g':Value} {x:α} (j1 j2:Nat) (hp1:pick H j1=some (R.A g' x)) (hp2:pick (bo H j1) j2=some (lK R e v gs xs m)) (hg:gs[m]?=some g) (hh:R.hd g'=R.hd g) (hy:ys=xs.set m x) :
    gI H (bK R e v (gs.set m g') ys :: bo (bo H j1) j2):=fun s ok hs=>by
  subst hy
  exact ⟨s,rfl,ok,zT ((Holds.out hs hp1).perm (List.Perm.cons _ (gN _ _ _ hp2))) hg hh⟩
/-- .. as it was altogether -/
theorem D8 {α:Type} {R:RK α} {e:TypeId} {v:Value} {gs:List Value} {xs:List α} {m:Nat} {g:Value} {x:α} (j1 j2:Nat) (hp1:pick H j1=some (R.A g x)) (hp2:pick (bo H j1) j2=some (lK R e v gs xs m)) (hg:gs[m]?=some g) (hx:xs[m]?=some x) :
    gI H (bK R e v gs xs :: bo (bo H j1) j2):=by
  have h:=CS (ys:=xs.set m x) j1 j2 hp1 hp2 hg rfl rfl
  have e1:gs.set m g=gs:=by rw [List.getElem?_eq_some_iff] at hg;obtain ⟨h1,rfl⟩:=hg;exact List.set_getElem_self ..
  have e2:xs.set m x=xs:=by rw [List.getElem?_eq_some_iff] at hx;obtain ⟨h1,rfl⟩:=hx;exact List.set_getElem_self ..
  rw [e1,e2] at h;exact h
/-- A new row's header is stored where one was taken out. -/
theorem mm {α:Type} {R:RK α} {e t:TypeId} {by_:Nat} {z v w:Value} {m:Nat} {gs:List Value} {xs ys:List α} {g':Value} {x:α} (j1 j2:Nat) (hp1:pick H j1=some (R.A g' x)) (hp2:pick (bo H j1) j2=some (lK R e v gs xs m)) (hm:m < xs.length) (hy:ys=xs.set m x) (hw:R.hd g'=w) (hv:lG H w [w]) (h1:∀ s,Holds s H→w.oneCell'=true)
    (h:dec n ops E i CE=some (t,cw v (m*1),w)) (ht:cM P t=some (false,1,by_,z)) (g:WI P n ops (i+1) Q (E.putO (dM ops i) undef) (bK R e v (gs.set m g') ys :: bo (bo H j1) j2)):WI P n ops i Q E H:=by
  subst hy;subst hw
  have hE:gI H (fact (gs.length=xs.length) :: bb Kd.raw e v (gs.map R.hd) :: ((bX R gs xs).set m pE++(R.A g' x :: bo (bo H j1) j2))):=fun s ok hs=>by
    refine ⟨s,rfl,ok,?_⟩
    have q1:=(Holds.out hs hp1).perm (List.Perm.cons _ (gN _ _ _ hp2))
    exact Holds.big.1 (q1.perm (List.Perm.swap ..))
  refine fun s ok hs=>?_
  have hlen:gs.length=xs.length:=(bi (H:=bo H j1) j2 hp2) s (Holds.out hs hp1).tail (fact (gs.length=xs.length)) (List.mem_cons_self ..)
  have key:WI P n ops i Q E (fact (R.hd g').oneCell' :: fact ((R.hd g').cells=[R.hd g'].toArray) :: fact (gs.length=xs.length) :: bb Kd.raw e v (gs.map R.hd) :: ((bX R gs xs).set m pE++(R.A g' x :: bo (bo H j1) j2))):=by
    refine fo (kd:=Kd.raw) (m:=m) (x0:=R.hd g') 3 () rfl (by rw [List.length_map,hlen];exact hm) rfl h ht (fun s hs=>hs.q (fact ((R.hd g').cells=[R.hd g'].toArray)) (List.mem_cons_of_mem _ (List.mem_cons_self ..))) (FX fun s hs=>hs.q (fact ((R.hd g').oneCell'=true)) (List.mem_cons_self ..)) ?_
    refine WI.ent (fun s ok hs=>⟨s,rfl,ok,?_⟩) g
    have q2:Holds s (bb Kd.raw e v ((gs.map R.hd).set m (R.hd g')) :: fact (gs.length=xs.length) :: ((bX R gs xs).set m pE++(R.A g' x :: bo (bo H j1) j2))) :=
      ((hs.perm (List.Perm.swap ..)).tail.perm (List.Perm.swap ..)).tail
    have q3:=q2.perm (List.Perm.swap ..)
    have q4:Holds s (pR (fact (gs.length=xs.length) :: bb Kd.raw e v ((gs.map R.hd).set m (R.hd g')) :: (bX R gs xs).set m pE) :: R.A g' x :: bo (bo H j1) j2):=Holds.big.2 q3
    have q5:=vS (m:=m+2) (a:=R.A g' x) (by
      show ((bX R gs xs).set m pE)[m]?=some pE
      rw [List.getElem?_set_self (by rw [rh hlen];omega)]) (q4.perm (List.Perm.swap ..))
    have e2:bK R e v (gs.set m g') (xs.set m x)=pR ((fact (gs.length=xs.length) :: bb Kd.raw e v ((gs.map R.hd).set m (R.hd g')) :: (bX R gs xs).set m pE).set (m+2) (R.A g' x)):=by
      unfold bK
      rw [List.map_set,nk (by omega) hm,List.length_set,List.length_set,List.set_cons_succ,List.set_cons_succ,List.set_set]
    rw [e2];exact q5
  have hE2:gI H (fact (R.hd g').oneCell' :: fact ((R.hd g').cells=[R.hd g'].toArray) :: fact (gs.length=xs.length) :: bb Kd.raw e v (gs.map R.hd) :: ((bX R gs xs).set m pE++(R.A g' x :: bo (bo H j1) j2))):=fun s ok hs=>by
    obtain ⟨s',ew,ok',hs'⟩:=hE s ok hs
    exact ⟨s',ew,ok',(hs'.consPr rfl (hv s hs)).consPr rfl (h1 s hs)⟩
  exact WI.ent hE2 key s ok hs
theorem vu:∀ (A B:List aC) (k:Nat),pick (A++B) (A.length+k)=pick B k
  | [],B,k=>by simp
  | a :: A,B,k=>by
    rw [List.length_cons,show A.length+1+k=(A.length+k)+1 by omega]
    exact vu A B k
theorem u9:∀ (A B:List aC) (k:Nat),bo (A++B) (A.length+k)=A++bo B k
  | [],B,k=>by simp
  | a :: A,B,k=>by
    rw [List.length_cons,show A.length+1+k=(A.length+k)+1 by omega]
    show a :: bo (A++B) (A.length+k)=_
    rw [u9 A B k];rfl
theorem Cz {s:St} {A:List aC}:∀ (B:List aC) {C:List aC},Holds s (A++(B++C))→Holds s (A++C)
  | [],_,h=>h
  | b :: B,C,h=>Cz B ((h.perm (List.perm_middle (l₁:=A) (l₂:=B++C) (a:=b))).tail)
/-- An element of a row is stored. -/
theorem sX {α:Type} {kd:Kd α} {e e1 t:TypeId} {agg:Bool} {by_:Nat} {z v w:Value} {m k:Nat} {gs:List Value} {xs ys:List (List α)} {x x':List α} {g:Value} {y0:α} (j:Nat) (gh:kd.G) (hp:pick H j=some (bK (cu kd e1) e v gs xs)) (hg:gs[m]?=some g) (hx:xs[m]?=some x) (hk:k < x.length) (hx':x'=x.set k y0) (hy:ys=xs.set m x')
    (h:dec n ops E i CE=some (t,cw g (k*kd.size),w)) (ht:cM P t=some (agg,kd.size,by_,z)) (hv:lG H w (kd.cells y0 gh)) (hi:∀ s,Holds s H→∀ a ∈ kd.items y0 gh,a.q s)
    (gg:WI P n ops (i+1) Q (E.putO (dM ops i) undef) (bK (cu kd e1) e v gs ys :: bo H j)):WI P n ops i Q E H:=by
  refine WI.ent (H':=(fact (w.cells=(kd.cells y0 gh).toArray) :: kd.items y0 gh)++(bb kd e1 g x :: lK (cu kd e1) e v gs xs m :: bo H j)) (fun s ok hs=>⟨s,rfl,ok,?_⟩) ?_
  · exact (Holds.items (Ck (R:=cu kd e1) (Holds.out hs hp) hg hx) (hi s hs)).consPr rfl (hv s hs)
  · have hpk:pick ((fact (w.cells=(kd.cells y0 gh).toArray) :: kd.items y0 gh)++(bb kd e1 g x :: lK (cu kd e1) e v gs xs m :: bo H j)) ((fact (w.cells=(kd.cells y0 gh).toArray) :: kd.items y0 gh).length+0)=some (bb kd e1 g x):=vu _ _ _
    refine fo _ gh hpk hk hx' h ht (fun s hs=>hs.q (fact (w.cells=(kd.cells y0 gh).toArray)) (List.mem_cons_self ..)) (fun s hs a ha=>hs.q a (List.mem_append_left _ (List.mem_cons_of_mem _ ha))) ?_
    refine WI.ent (fun s ok hs=>⟨s,rfl,ok,?_⟩) gg
    subst hy
    rw [u9] at hs
    have hs':Holds s ([bb kd e1 g x']++((fact (w.cells=(kd.cells y0 gh).toArray) :: kd.items y0 gh)++(lK (cu kd e1) e v gs xs m :: bo H j))):=hs
    have h2:Holds s (bb kd e1 g x' :: lK (cu kd e1) e v gs xs m :: bo H j):=Cz (A:=[bb kd e1 g x']) _ hs'
    have h3:=zT (R:=cu kd e1) (g':=g) h2 hg rfl
    have e1:gs.set m g=gs:=by rw [List.getElem?_eq_some_iff] at hg;obtain ⟨h1,rfl⟩:=hg;exact List.set_getElem_self ..
    rw [e1] at h3;exact h3
/-- What a row is when it is nil. -/
def Ah {β:Type} (R:RK (List β)) (zg:Value):Prop:=R.hd zg=.slice none 0 0∧∀ (F:List aC) (s:St),Holds s F→Holds s (R.A zg [] :: F)
theorem gj {β:Type} {kd:Kd β} {e:TypeId}:Ah (cu kd e) (.slice none 0 0):=⟨rfl,fun F s h=>h.consPr rfl ⟨none,0,rfl,Nat.le_refl _,Nat.zero_le _,Nat.zero_le _,fun h=>absurd h (Nat.lt_irrefl 0)⟩⟩
theorem zc {α:Type} {R:RK α} {e:TypeId} {s:St} {F:List aC} (h:Holds s F):Holds s (bK R e (.slice none 0 0) [] ([]:List α) :: F):=h.consPr rfl (fun y hy=>by
  rcases List.mem_cons.1 hy with rfl | hy
  · exact (rfl:([]:List Value).length=([]:List α).length)
  · rcases List.mem_cons.1 hy with rfl | hy
    · exact ⟨none,0,rfl,Nat.le_refl _,Nat.zero_le _,Nat.zero_le _,fun h=>absurd h (Nat.lt_irrefl 0)⟩
    · cases hy)
theorem Ea {α:Type} {R:RK α} {e:TypeId}:gI H (bK R e (.slice none 0 0) [] ([]:List α) :: H):=fun s ok hs=>⟨s,rfl,ok,zc hs⟩
theorem vH {β:Type} {R:RK (List β)} {zg:Value} (hn:Ah R zg):∀ (k:Nat) (F:List aC) (s:St),Holds s F→Holds s (bX R (List.replicate k zg) (List.replicate k ([]:List β))++F)
  | 0,F,s,h=>h
  | k+1,F,s,h=>by
    show Holds s (R.A zg [] :: (bX R (List.replicate k zg) (List.replicate k ([]:List β))++F))
    exact hn.2 _ _ (vH hn k F s h)
/-- A made row of nil rows. -/
theorem D9 {β:Type} {R:RK (List β)} {zg:Value} {e:TypeId} {v:Value} {k:Nat} (hn:Ah R zg) (j:Nat) (hp:pick H j=some (bb Kd.raw e v (List.replicate k (.slice none 0 0)))):gI H (bK R e v (List.replicate k zg) (List.replicate k ([]:List β)) :: bo H j):=fun s ok hs=>by
  have h1:=Holds.out hs hp
  have e1':(List.replicate k zg).map R.hd=List.replicate k (.slice none 0 0):=by rw [List.map_replicate,hn.1]
  refine ⟨s,rfl,ok,Holds.big.2 ?_⟩
  show Holds s (fact _ :: bb Kd.raw e v _ :: (bX _ _ _++bo H j))
  rw [e1']
  refine Holds.consPr ?_ rfl (by show _=_;rw [List.length_replicate,List.length_replicate])
  exact (vH hn k _ s h1).perm List.perm_middle
theorem B5 {α β:Type} {b:Nat} {m n:Int} {x:α} {zs:List α} (h:og b m n x=some zs) (y:β):og b m n y=some (List.replicate m.toNat y)∧zs=List.replicate m.toNat x:=by
  unfold og at h ⊢
  split at h
  · rename_i hc
    rw [if_pos hc];exact ⟨rfl,(Option.some.inj h).symm⟩
  · cases h
theorem ml {β:Type} (R:RK (List β)) {zg:Value} (hn:Ah R zg) {t e:TypeId} {by_:Nat} {z:Value} {kl kc:IntKind} {m N:Int} {zs:List (List β)} (hm:og by_ m N ([]:List β)=some zs) (h:dec n ops E i Gp=some (t,.int kl m,.int kc N)) (ht:oj P t=some e) (he:cM P e=some (false,1,by_,z))
    (hz:z=.slice none 0 0) (g:∀ v:Value,WI P n ops (i+1) Q (E.putO (dM ops i) v) (bK R e v (List.replicate m.toNat zg) zs :: H)):WI P n ops i Q E H:=by
  obtain ⟨h1,rfl⟩:=B5 hm (Value.slice none 0 0)
  subst hz
  exact o7 (kd:=Kd.raw) () h1 h ht he rfl rfl (fun s hs a ha=>by rw [List.mem_singleton.1 ha];rfl) (fun v=>WI.ent (D9 hn 0 rfl) (g v))
/-- A header, and how long its slice is. -/
def lJ (v:Value) (n:Nat):aC:=fact (∃ A c,v=.slice A n c∧(0 < n→A.isSome=true))
theorem fT {v:Value} {N:Nat} (j:Nat) (hp:pick H j=some (lJ v N)):ra H v N:=fun s hs=>hs.q _ (bp hp)
theorem aB {v:Value} {N:Nat} (h:ra H v N):gI H (lJ v N :: H):=fun s ok hs=>⟨s,rfl,ok,hs.consPr rfl (h s hs)⟩
/-- Rows that are slices. -/
def uQ {β:Type} (R:RK (List β)):Prop:=∀ g x (s:St),(R.A g x).q s→∃ A c,R.hd g=.slice A x.length c∧(0 < x.length→A.isSome=true)
theorem E2 {α:Type} {kd:Kd α} {e:TypeId} {v:Value} {xs:List α} {s:St} (h:(bb kd e v xs).q s):∃ A c,v=.slice A xs.length c∧(0 < xs.length→A.isSome=true):=by
  obtain ⟨A,c,hv,h1,_,_,h⟩:=h
  refine ⟨A,c,hv,fun h0=>?_⟩
  obtain ⟨g,_,_,rfl,_⟩:=h (by omega)
  rfl
theorem dz {β:Type} {kd:Kd β} {e:TypeId}:uQ (cu kd e):=fun g x s h=>E2 h
/-- facts are taken out -/
theorem WI.fact {q:Prop} (j:Nat) (hp:pick H j=some (Gw.fact q)) (k:q→WI P n ops i Q E H):WI P n ops i Q E H:=fun s ok hs=>k (hs.q _ (bp hp)) s ok hs
theorem WH.fact {q:Prop} {cd:Code} (j:Nat) (hp:pick H j=some (Gw.fact q)) (k:q→WH P n cd Q E H):WH P n cd Q E H:=fun s ok hs=>k (hs.q _ (bp hp)) s ok hs
theorem QH.fact {q:Prop} {x:Exit} (j:Nat) (hp:pick H j=some (Gw.fact q)) (k:q→QH Q x E H):QH Q x E H:=fun s ok hs=>k (hs.q _ (bp hp)) s ok hs
/-- The header of a row is loaded; what stands of it is kept. -/
theorem lc {β:Type} {R:RK (List β)} {e t:TypeId} {by_:Nat} {z v:Value} {m:Nat} {gs:List Value} {xs:List (List β)} {x:List β} (hr:uQ R) (ho:rr H (bK R e v gs xs)) (hm:xs[m]?=some x) (h:dec n ops E i xI=some (t,cw v (m*1)))
    (ht:cM P t=some (false,1,by_,z)) (k:∀ g,WI P n ops (i+1) Q (E.putO (dM ops i) (R.hd g)) (Gw.fact (gs[m]?=some g) :: lJ (R.hd g) x.length :: H)):WI P n ops i Q E H:=fun s ok hs=>by
  have hl:=sB ho s hs
  have hlt:m < gs.length:=by rw [hl];exact (List.getElem?_eq_some_iff.1 hm).1
  have hg:gs[m]?=some gs[m]:=List.getElem?_eq_getElem hlt
  refine CV ho hm h ht (fun g hg=>?_) s ok hs
  exact WI.ent (fun s ok hs=>⟨s,rfl,ok,(hs.consPr rfl (hr g x s (nf ho hg hm s hs))).consPr rfl hg⟩) (k g)
/-- .. whose ghost is known -/
theorem mi {α:Type} {R:RK α} {e t:TypeId} {by_:Nat} {z v:Value} {m:Nat} {gs:List Value} {g:Value} (ho:rr H (bb Kd.raw e v (gs.map R.hd))) (hg:gs[m]?=some g) (h:dec n ops E i xI=some (t,cw v (m*1)))
    (ht:cM P t=some (false,1,by_,z)) (k:WI P n ops (i+1) Q (E.putO (dM ops i) (R.hd g)) H):WI P n ops i Q E H:=by
  refine mj (kd:=Kd.raw) (e:=e) (off:=0) (sz:=1) (agg:=false) (x0:=R.hd g) ho (by rw [List.getElem?_map,hg];rfl) (by rw [Addr.add_zero'];exact h) ht rfl rfl (fun _=>?_)
  exact WI.ent (fun s ok hs=>⟨s,rfl,ok,hs.tail⟩) k
/-- A row's ghost is named ahead. -/
theorem CP {β:Type} {R:RK (List β)} {e:TypeId} {v:Value} {m:Nat} {gs:List Value} {xs:List (List β)} {x:List β} {s:St} (hr:uQ R) (ho:rr H (bK R e v gs xs)) (hm:xs[m]?=some x) (hs:Holds s H):∃ g,gs[m]?=some g∧Holds s (Gw.fact (gs[m]?=some g) :: lJ (R.hd g) x.length :: H):=by
  have hl:=sB ho s hs
  have hlt:m < gs.length:=by rw [hl];exact (List.getElem?_eq_some_iff.1 hm).1
  have hg:gs[m]?=some gs[m]:=List.getElem?_eq_getElem hlt
  exact ⟨gs[m],hg,(hs.consPr rfl (hr _ x s (nf ho hg hm s hs))).consPr rfl hg⟩
theorem WH.row {β:Type} {R:RK (List β)} {e:TypeId} {v:Value} {m:Nat} {gs:List Value} {xs:List (List β)} {x:List β} {cd:Code} (hr:uQ R) (ho:rr H (bK R e v gs xs)) (hm:xs[m]?=some x) (k:∀ g,gs[m]?=some g→WH P n cd Q E (Gw.fact (gs[m]?=some g) :: lJ (R.hd g) x.length :: H)):WH P n cd Q E H:=fun s ok hs=>by
  obtain ⟨g,hg,h⟩:=CP hr ho hm hs
  exact k g hg s ok h
theorem WI.row {β:Type} {R:RK (List β)} {e:TypeId} {v:Value} {m:Nat} {gs:List Value} {xs:List (List β)} {x:List β} (hr:uQ R) (ho:rr H (bK R e v gs xs)) (hm:xs[m]?=some x) (k:∀ g,gs[m]?=some g→WI P n ops i Q E (Gw.fact (gs[m]?=some g) :: lJ (R.hd g) x.length :: H)):WI P n ops i Q E H:=fun s ok hs=>by
  obtain ⟨g,hg,h⟩:=CP hr ho hm hs
  exact k g hg s ok h
/-- pointers to boxes as values -/
theorem tV {p:Value} {e:TypeId} {vs:List Value} (j:Nat) (hp:pick H j=some (a7 p e vs)):∀ s,Holds s H→∃ b:Nat,p=.pointer (some ⟨b,0,none⟩):=fun s hs=>by
  obtain ⟨b,e,_⟩:=hs.q _ (bp hp);exact ⟨b,e⟩
theorem wz {p:Value} {e:TypeId} {vs:List Value} (j:Nat) (hp:pick H j=some (a7 p e vs)):∀ s,Holds s H→p.oneCell'=true:=fun s hs=>by
  obtain ⟨b,rfl⟩:=tV j hp s hs;rfl
theorem Hb {p:Value} {e:TypeId} {vs:List Value} (j:Nat) (hp:pick H j=some (a7 p e vs)):lG H p [p]:=fun s hs=>by
  obtain ⟨b,rfl⟩:=tV j hp s hs;rfl
theorem Hi {i:Nat} {p:Value} {e:TypeId} {vs:List Value} {ps ps':List (Nat × Value)} (j:Nat) (hp:pick H j=some (a7 p e vs)) (t:qs H ps ps'):qs H ((i,p) :: ps) ((i,.agg #[p]) :: ps'):=fun s hs=>by
  rw [List.map_cons,List.map_cons,t s hs]
  obtain ⟨b,rfl⟩:=tV j hp s hs;rfl
theorem gD {α:Type} {R:RK α} {e:TypeId} {v:Value} {gs:List Value} {xs:List α} (j:Nat) (hp:pick H j=some (bK R e v gs xs)):∀ s,Holds s H→xs.length < 9223372036854775807:=yd (bi j hp)
/-- What a kind of row is when nobody writes it any more. -/
def Fz {α:Type} (R:RK α) (kd:Kd α):Prop:=kd.size=1∧∀ g x F,gI (R.A g x :: F) (pr (fun s=>kd.rd s x [R.hd g]) (fun _ _ h r=>kd.mono h r) :: F)
theorem jj {α:Type} {kd:Kd α} {e:TypeId}:Fz (cu kd e) (Kd.sl kd):=⟨rfl,fun g x F s ok hs=>by
  obtain ⟨s',ew,ok',hs'⟩:=gI.frz s ok hs
  refine ⟨s',ew,ok',hs'.tail.consPr rfl ⟨g,rfl,fun a ha=>?_⟩⟩
  rw [List.mem_singleton.1 ha];exact hs'.q _ (List.mem_cons_self ..)⟩
theorem xq {α:Type} {R:RK α} {kd:Kd α} (hf:Fz R kd):∀ {gs:List Value} {xs:List α} {F:List aC},gs.length=xs.length→gI (bX R gs xs++F) (pr (fun s=>bV kd s xs (gs.map R.hd)) (fun _ _ h r=>r.mono h) :: F)
  | [],[],F,_=>gI.add _ rfl fun _ _ _=>rfl
  | [],_ :: _,_,h=>by simp at h
  | _ :: _,[],_,h=>by simp at h
  | g :: gs,x :: xs,F,h=>fun s ok hs=>by
    have h1:Holds s (R.A g x :: (bX R gs xs++F)):=hs
    obtain ⟨s1,w1,ok1,h2⟩:=hf.2 g x _ s ok h1
    obtain ⟨s2,w2,ok2,h3⟩:=xq hf (F:=pr (fun s=>kd.rd s x [R.hd g]) (fun _ _ h r=>kd.mono h r) :: F) (by simpa using h) s1 ok1 (h2.perm List.perm_middle.symm)
    refine ⟨s2,w2.trans w1,ok2,h3.tail.tail.consPr rfl ?_⟩
    exact ⟨[R.hd g],gs.map R.hd,rfl,h3.q _ (List.mem_cons_of_mem _ (List.mem_cons_self ..)),h3.q _ (List.mem_cons_self ..)⟩
theorem xo {s:St}:∀ {vs cs:List Value},bV Kd.raw s vs cs→cs=vs
  | [],cs,h=>h
  | v :: vs,cs,⟨c,r,e,⟨_,hc,_⟩,hr⟩=>by
    subst e;rw [xo hr,hc];rfl
/-- The rows are frozen, the outer row is still ours. -/
theorem mO {α:Type} {R:RK α} {kd:Kd α} {e:TypeId} {v:Value} {gs:List Value} {xs:List α} (hf:Fz R kd) (j:Nat) (hp:pick H j=some (bK R e v gs xs)):gI H (bb kd e v xs :: bo H j):=fun s ok hs=>by
  have h1:Holds s (fact (gs.length=xs.length) :: bb Kd.raw e v (gs.map R.hd) :: (bX R gs xs++bo H j)):=Holds.big.1 (Holds.out hs hp)
  have hlen:gs.length=xs.length:=h1.q _ (List.mem_cons_self ..)
  have h2:Holds s (bX R gs xs++(bb Kd.raw e v (gs.map R.hd) :: bo H j)):=h1.tail.perm List.perm_middle.symm
  obtain ⟨s',ew,ok',h3⟩:=xq hf hlen s ok h2
  refine ⟨s',ew,ok',?_⟩
  have hr:bV kd s' xs (gs.map R.hd):=h3.q _ (List.mem_cons_self ..)
  obtain ⟨A,c,hv,q1,q2,q3,q4⟩:=h3.q (bb Kd.raw e v (gs.map R.hd)) (List.mem_cons_of_mem _ (List.mem_cons_self ..))
  have h4:=h3.tail
  have hl2:(gs.map R.hd).length=xs.length:=by rw [List.length_map,hlen]
  refine ⟨fun y hy=>?_,fun k hk=>h4.own k hk,h4.nd⟩
  rcases List.mem_cons.1 hy with rfl | hy
  · refine ⟨A,c,by rw [hv,hl2],by rw [← hl2];exact q1,q2,by rw [← hl2];exact q3,fun hc=>?_⟩
    obtain ⟨g,cur,cs,rfl,hh,hs,ht,hrw⟩:=q4 hc
    have e2:=xo hrw
    subst e2
    refine ⟨g,cur,gs.map R.hd,rfl,hh,by rw [hf.1];exact hs,?_,hr⟩
    rw [hf.1,← hl2];exact ht
  · exact h4.q y (List.mem_cons_of_mem _ hy)
theorem sU {α:Type} {R:RK α} {kd:Kd α} {e:TypeId} {v:Value} {gs:List Value} {xs:List α} (hf:Fz R kd) (j:Nat) (hp:pick H j=some (bK R e v gs xs)):gI H (nt kd v xs :: bo H j):=gI.trans (mO hf j hp) gI.frz
end
end Gw
