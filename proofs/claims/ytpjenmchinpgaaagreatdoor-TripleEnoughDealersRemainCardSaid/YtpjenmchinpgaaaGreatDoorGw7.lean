/- Own words: slices whose rows are owned too (trees), to any depth. -/
import Derived.Test.YtpjenmchinpgaaaGreatDoorGw6
set_option linter.unusedVariables false
namespace Gw
open Go Gv
/-- Results of several classes. -/
def Mj {A B X Y:Type} (f:A→X→Y→Prop) (g:B→X→Y→Prop) (o:A ⊕ B) (v:X) (L:Y):Prop:=match o with | .inl a=>f a v L | .inr b=>g b v L
theorem O9 {A B X Y:Type} {f:A→X→Y→Prop} {g:B→X→Y→Prop} {a:A} {v:X} {L:Y} (h:f a v L):Mj f g (.inl a) v L:=h
theorem Pb {A B X Y:Type} {f:A→X→Y→Prop} {g:B→X→Y→Prop} {b:B} {v:X} {L:Y} (h:g b v L):Mj f g (.inr b) v L:=h
theorem NQ {A B α:Type} {f:A→Option α} {g:B→Option α} {a:A} {r:α} (h:GV (.inl a) f g=some r):f a=some r:=h
theorem NR {A B α:Type} {f:A→Option α} {g:B→Option α} {b:B} {r:α} (h:GV (.inr b) f g=some r):g b=some r:=h
def Pi (v:Value):aE:=pr (fun _=>v.oneCell'=true) (fun _ _ _ h=>h)
/-- A cell of which nothing is told. -/
def Kd.any:Kd Unit :=
  { size:=1,G:=Value,cells:=fun _ g=>[g],items:=fun _ g=>[Pi g],len:=fun _ _=>rfl,pers:=fun _ _ a h=>(by rw [List.mem_singleton] at h;subst h;rfl),
    one:=fun s x _ h v hv=>by rw [List.mem_singleton] at hv;subst hv;exact h _ (List.mem_singleton.2 rfl) }
/-- Several assertions as one. -/
def uG (L:List aE):aE:=⟨eg L,fun s=>∀ x ∈ L,x.q s,fun a b h hb hq x hx=>x.st a b h (fun k hk=>hb k (List.mem_flatMap.2 ⟨x,hx,hk⟩)) (hq x hx)⟩
/-- A kind of row: its ghost, its header, what it owns. -/
structure RK (α:Type) where
  hd:Value→Value
  A:Value→α→aE
abbrev cY {α:Type} (kd:Kd α) (e:TypeId):RK (List α):=⟨id,fun v x=>bD kd e v x⟩
/-- A tree's ghost as one value: its header and its rows' ghosts. -/
def tw (v:Value) (gs:List Value):Value:=.tuple ⟨v :: gs⟩
def th (w:Value):Value:=match w with | .tuple ⟨v :: _⟩=>v | _=>.slice none 0 0
def tg (w:Value):List Value:=match w with | .tuple ⟨_ :: gs⟩=>gs | _=>[]
/-- the rows' assertions, one emp where m is -/
def dp {α:Type} (R:RK α):List Value→List α→List aE
  | g :: gs,x :: xs=>R.A g x :: dp R gs xs
  | _,_=>[]
def cL {α:Type} (R:RK α) (e:TypeId) (v:Value) (gs:List Value) (xs:List α):aE:=uG (fact (gs.length=xs.length) :: bD Kd.raw e v (gs.map R.hd) :: dp R gs xs)
def pT {α:Type} (R:RK α) (e:TypeId) (v:Value) (gs:List Value) (xs:List α) (m:Nat):aE:=uG (fact (gs.length=xs.length) :: bD Kd.raw e v (gs.map R.hd) :: (dp R gs xs).set m uw)
abbrev vu {α:Type} (R:RK α) (e:TypeId):RK (List α):=⟨th,fun g xs=>cL R e (th g) (tg g) xs⟩
section
variable {H:List aE}
theorem tV (x:aE) (L:List aE):eg (x :: L)=x.bs++eg L:=by simp [eg]
theorem uY (L M:List aE):eg (L++M)=eg L++eg M:=by simp [eg]
theorem Holds.big {s:St} {L:List aE}:Holds s (uG L :: H) ↔ Holds s (L++H):=by
  constructor
  · intro h
    refine ⟨fun x hx=>?_,fun k hk=>?_,?_⟩
    · rcases List.mem_append.1 hx with hx | hx
      · exact h.q (uG L) (List.mem_cons_self ..) x hx
      · exact h.q x (List.mem_cons_of_mem _ hx)
    · exact h.own k (by rw [tV];rw [uY] at hk;exact hk)
    · have:=h.nd;rw [tV] at this;rw [uY];exact this
  · intro h
    refine ⟨fun x hx=>?_,fun k hk=>?_,?_⟩
    · rcases List.mem_cons.1 hx with rfl | hx
      · exact fun y hy=>h.q y (List.mem_append_left _ hy)
      · exact h.q x (List.mem_append_right _ hx)
    · exact h.own k (by rw [uY];rw [tV] at hk;exact hk)
    · have:=h.nd;rw [uY] at this;rw [tV];exact this
theorem Holds.empI {s:St} (h:Holds s H):Holds s (uw :: H):=h.consPr rfl trivial
theorem set_perm:∀ {L:List aE} {m:Nat} {a b:aE},L[m]?=some a→(b :: L).Perm (a :: L.set m b)
  | x :: L,0,a,b,h=>by simp at h;subst h;exact List.Perm.swap ..
  | x :: L,m+1,a,b,h=>by
    have ih:=set_perm (L:=L) (m:=m) (a:=a) (b:=b) (by simpa using h)
    show (b :: x :: L).Perm (a :: x :: L.set m b)
    exact (List.Perm.swap x b L).trans ((ih.cons x).trans (List.Perm.swap a x _))
theorem zo {s:St} {L:List aE} {m:Nat} {a:aE} (h:L[m]?=some a) (hs:Holds s (uG L :: H)):Holds s (a :: uG (L.set m uw) :: H):=by
  have h1:=Holds.empI (Holds.big.1 hs)
  have p:(uw :: (L++H)).Perm (L.set m uw++(a :: H)):=by
    have q:=(set_perm (b:=uw) h).append_right H
    exact q.trans (List.perm_middle (l₁:=L.set m uw) (l₂:=H) (a:=a)).symm
  exact (Holds.big.2 (h1.perm p)).perm (List.Perm.swap ..)
theorem BV {s:St} {L:List aE} {m:Nat} {a:aE} (h:L[m]?=some uw) (hs:Holds s (a :: uG L :: H)):Holds s (uG (L.set m a) :: H):=by
  have h1:=Holds.big.1 (hs.perm (List.Perm.swap ..))
  have p:(L++(a :: H)).Perm (uw :: (L.set m a++H)):=by
    have q:=(set_perm (b:=a) h).append_right H
    exact (List.perm_middle (l₁:=L) (l₂:=H) (a:=a)).trans q
  exact Holds.big.2 (h1.perm p).tail
end
theorem py {α:Type} {R:RK α}:∀ {gs:List Value} {xs:List α} {m:Nat} {g:Value} {x:α},gs[m]?=some g→xs[m]?=some x→(dp R gs xs)[m]?=some (R.A g x)
  | [],_,_,_,_,h,_=>by simp at h
  | _ :: _,[],_,_,_,_,h=>by simp at h
  | g0 :: gs,x0 :: xs,0,g,x,h1,h2=>by simp at h1 h2;subst h1;subst h2;rfl
  | g0 :: gs,x0 :: xs,m+1,g,x,h1,h2=>by
    show (dp R gs xs)[m]?=_
    exact py (by simpa using h1) (by simpa using h2)
theorem ry {α:Type} {R:RK α}:∀ {gs:List Value} {xs:List α} {m:Nat} {g:Value} {x:α},m < gs.length→m < xs.length→dp R (gs.set m g) (xs.set m x)=(dp R gs xs).set m (R.A g x)
  | [],_,_,_,_,h,_=>by simp at h
  | _ :: _,[],_,_,_,_,h=>by simp at h
  | g0 :: gs,x0 :: xs,0,g,x,_,_=>rfl
  | g0 :: gs,x0 :: xs,m+1,g,x,h1,h2=>by
    show R.A g0 x0 :: dp R (gs.set m g) (xs.set m x)=R.A g0 x0 :: (dp R gs xs).set m (R.A g x)
    rw [ry (by simpa using h1) (by simpa using h2)]
theorem wk {α:Type} {R:RK α}:∀ {gs:List Value} {xs:List α},gs.length=xs.length→(dp R gs xs).length=xs.length
  | [],[],_=>rfl
  | [],_ :: _,h=>by simp at h
  | _ :: _,[],h=>by simp at h
  | _ :: gs,_ :: xs,h=>by show (dp R gs xs).length+1=xs.length+1;rw [wk (by simpa using h)]
/-- What H tells of. -/
def wB (H:List aE) (A:aE):Prop:=∀ s,Holds s H→A.q s
section
variable {P:Program} {n:Nat} {Q:cM} {E:Env} {H F:List aE} {ops:sO} {i:Nat}
theorem bV {A:aE} (j:Nat) (hp:pick H j=some A):wB H A:=fun _ hs=>hs.q _ (ce hp)
theorem xJ {α:Type} {R:RK α} {e:TypeId} {v:Value} {gs:List Value} {xs:List α} (h:wB H (cL R e v gs xs)):∀ s,Holds s H→gs.length=xs.length:=fun s hs=>h s hs (fact (gs.length=xs.length)) (List.mem_cons_self ..)
theorem yH {α:Type} {R:RK α} {e:TypeId} {v:Value} {gs:List Value} {xs:List α} (h:wB H (cL R e v gs xs)):wB H (bD Kd.raw e v (gs.map R.hd)):=fun s hs=>h s hs (bD Kd.raw e v (gs.map R.hd)) (List.mem_cons_of_mem _ (List.mem_cons_self ..))
theorem rq {α:Type} {R:RK α} {e:TypeId} {v:Value} {gs:List Value} {xs:List α} {m:Nat} {g:Value} {x:α} (h:wB H (cL R e v gs xs)) (hg:gs[m]?=some g) (hx:xs[m]?=some x):wB H (R.A g x):=fun s hs =>
  h s hs (R.A g x) (List.mem_cons_of_mem _ (List.mem_cons_of_mem _ (List.mem_of_getElem? (py hg hx))))
theorem O7 {α:Type} {R:RK α} {e:TypeId} {v:Value} {gs:List Value} {xs:List α} {m:Nat} (h:wB H (pT R e v gs xs m)):∀ s,Holds s H→gs.length=xs.length:=fun s hs=>h s hs (fact (gs.length=xs.length)) (List.mem_cons_self ..)
theorem uM {α:Type} {R:RK α} {e:TypeId} {v:Value} {gs:List Value} {xs:List α} {m:Nat} (h:wB H (pT R e v gs xs m)):wB H (bD Kd.raw e v (gs.map R.hd)):=fun s hs=>h s hs (bD Kd.raw e v (gs.map R.hd)) (List.mem_cons_of_mem _ (List.mem_cons_self ..))
theorem z5 {α:Type} {kd:Kd α} {e:TypeId} {v:Value} {xs:List α} (h:wB H (bD kd e v xs)):vZ H v xs.length:=fun s hs=>by
  obtain ⟨A,c,hv,h1,_,_,h⟩:=h s hs
  refine ⟨A,c,hv,fun h0=>?_⟩
  obtain ⟨g,_,_,rfl,_⟩:=h (by omega)
  rfl
theorem aj {α:Type} {R:RK α} {e:TypeId} {v:Value} {gs:List Value} {xs:List α} (h:wB H (cL R e v gs xs)):vZ H v xs.length:=fun s hs=>by
  have:=z5 (yH h) s hs
  rw [List.length_map,xJ h s hs] at this;exact this
theorem A7 {α:Type} {R:RK α} {e:TypeId} {v:Value} {gs:List Value} {xs:List α} {m:Nat} (h:wB H (pT R e v gs xs m)):vZ H v xs.length:=fun s hs=>by
  have:=z5 (uM h) s hs
  rw [List.length_map,O7 h s hs] at this;exact this
theorem Gn {α:Type} {kd:Kd α} {e:TypeId} {v:Value} {xs:List α} (h:wB H (bD kd e v xs)):∀ s,Holds s H→xs.length < 9223372036854775807:=fun s hs=>by
  obtain ⟨A,c,_,_,_,h,_⟩:=h s hs;omega
theorem Et {α:Type} {R:RK α} {e:TypeId} {v:Value} {gs:List Value} {xs:List α} (h:wB H (cL R e v gs xs)):∀ s,Holds s H→xs.length < 9223372036854775807:=fun s hs=>by
  have:=Gn (yH h) s hs
  rw [List.length_map,xJ h s hs] at this;exact this
/-- A load of an element of what is owned somewhere. -/
theorem qD {α:Type} {kd:Kd α} {e t:TypeId} {agg:Bool} {sz by_:Nat} {z v:Value} {m:Nat} {xs:List α} {x0:α} (off:Nat) (hp:wB H (bD kd e v xs)) (hm:xs[m]?=some x0) (h:dec n ops E i DT=some (t,(dA v (m*kd.size)).add off))
    (ht:dM P t=some (agg,sz,by_,z)) (h1:(agg || Nat.beq sz 1)=true) (hfit:Nat.ble (off+sz) kd.size=true)
    (g:∀ g,WI P n ops (i+1) Q (E.putO (eW ops i) (valOf agg (((kd.cells x0 g).drop off).take sz))) (kd.items x0 g++H)):WI P n ops i Q E H :=
  Hb h ht h1 (fun s ok hs=>by
    obtain ⟨A,c,rfl,hq⟩:=hp s hs
    obtain ⟨g,hi,hc⟩:=yM (N:=xs.length) (C:=c) hq hm
    refine ⟨g,?_,fun k u hu=>?_,Holds.items hs hi⟩
    · have:=Nat.le_of_ble_eq_true hfit;rw [List.length_take,List.length_drop,kd.len];omega
    · have:=hc _ u (uc hu)
      rwa [Addr.add_add]) g
/-- A load of a row's header. -/
theorem N0 {α:Type} {R:RK α} {e t:TypeId} {by_:Nat} {z v:Value} {m:Nat} {gs:List Value} {xs:List α} {x:α} (ho:wB H (bD Kd.raw e v (gs.map R.hd))) (hl:∀ s,Holds s H→gs.length=xs.length) (hm:xs[m]?=some x) (h:dec n ops E i DT=some (t,dA v (m*1)))
    (ht:dM P t=some (false,1,by_,z)) (g:∀ g,gs[m]?=some g→WI P n ops (i+1) Q (E.putO (eW ops i) (R.hd g)) H):WI P n ops i Q E H:=fun s ok hs=>by
  have hlt:m < gs.length:=by rw [hl s hs];exact (List.getElem?_eq_some_iff.1 hm).1
  have hg:gs[m]?=some gs[m]:=List.getElem?_eq_getElem hlt
  refine qD (kd:=Kd.raw) (e:=e) (off:=0) (sz:=1) (agg:=false) (x0:=R.hd gs[m]) ho (by rw [List.getElem?_map,hg];rfl) (by rw [Addr.add_zero'];exact h) ht rfl rfl (fun _=>?_) s ok hs
  exact WI.ent (fun s ok hs=>⟨s,rfl,ok,hs.tail⟩) (g gs[m] hg)
theorem KL {α:Type} {R:RK α} {e t:TypeId} {by_:Nat} {z v:Value} {m:Nat} {gs:List Value} {xs:List α} {x:α} (ho:wB H (cL R e v gs xs)) (hm:xs[m]?=some x) (h:dec n ops E i DT=some (t,dA v (m*1)))
    (ht:dM P t=some (false,1,by_,z)) (g:∀ g,gs[m]?=some g→WI P n ops (i+1) Q (E.putO (eW ops i) (R.hd g)) H):WI P n ops i Q E H:=N0 (yH ho) (xJ ho) hm h ht g
/-- A row is taken out of a tree. -/
theorem JZ {α:Type} {R:RK α} {e:TypeId} {v:Value} {gs:List Value} {xs:List α} {m:Nat} {g:Value} {x:α} {s:St} (hs:Holds s (cL R e v gs xs :: H)) (hg:gs[m]?=some g) (hx:xs[m]?=some x):Holds s (R.A g x :: pT R e v gs xs m :: H):=by
  have hr:=py (R:=R) hg hx
  exact zo (L:=fact (gs.length=xs.length) :: bD Kd.raw e v (gs.map R.hd) :: dp R gs xs) (m:=m+2) (by simpa using hr) hs
theorem iX {α:Type} {R:RK α} {e:TypeId} {v:Value} {gs:List Value} {xs:List α} {m:Nat} {g:Value} {x:α} (j:Nat) (hp:pick H j=some (cL R e v gs xs)) (hg:gs[m]?=some g) (hx:xs[m]?=some x):kj H (R.A g x :: pT R e v gs xs m :: cj H j):=fun s ok hs=>by
  have h1:=Holds.out hs hp
  have hr:=py (R:=R) hg hx
  refine ⟨s,rfl,ok,?_⟩
  exact zo (L:=fact (gs.length=xs.length) :: bD Kd.raw e v (gs.map R.hd) :: dp R gs xs) (m:=m+2) (by simpa using hr) h1
theorem G3 {α:Type} {R:RK α} {e:TypeId} {v:Value} {gs:List Value} {xs:List α} {m:Nat} {g g':Value} {x:α} {s:St} (h1:Holds s (R.A g' x :: pT R e v gs xs m :: H)) (hg:gs[m]?=some g) (hh:R.hd g'=R.hd g):Holds s (cL R e v (gs.set m g') (xs.set m x) :: H):=by
  have hlen:gs.length=xs.length:=h1.q (pT R e v gs xs m) (List.mem_cons_of_mem _ (List.mem_cons_self ..)) (fact (gs.length=xs.length)) (List.mem_cons_self ..)
  have hlt:m < gs.length:=(List.getElem?_eq_some_iff.1 hg).1
  have h2:=BV (L:=fact (gs.length=xs.length) :: bD Kd.raw e v (gs.map R.hd) :: (dp R gs xs).set m uw) (m:=m+2) (a:=R.A g' x) (by
    show ((dp R gs xs).set m uw)[m]?=some uw
    rw [List.getElem?_set_self (by rw [wk hlen];omega)]) h1
  have e1:(gs.set m g').map R.hd=gs.map R.hd:=by
    rw [List.map_set,hh]
    have:R.hd g=(gs.map R.hd)[m]'(by simpa using hlt):=by rw [List.getElem_map];rw [List.getElem?_eq_getElem hlt] at hg;cases hg;rfl
    rw [this,List.set_getElem_self]
  have e2:cL R e v (gs.set m g') (xs.set m x)=uG ((fact (gs.length=xs.length) :: bD Kd.raw e v (gs.map R.hd) :: (dp R gs xs).set m uw).set (m+2) (R.A g' x)):=by
    unfold cL
    rw [e1,ry hlt (by omega),List.length_set,List.length_set,List.set_cons_succ,List.set_cons_succ,List.set_set]
  rw [e2];exact h2
/-- A row goes back, its header as it was. -/
theorem G1 {α:Type} {R:RK α} {e:TypeId} {v:Value} {gs:List Value} {xs ys:List α} {m:Nat} {g g':Value} {x:α} (j1 j2:Nat) (hp1:pick H j1=some (R.A g' x)) (hp2:pick (cj H j1) j2=some (pT R e v gs xs m)) (hg:gs[m]?=some g) (hh:R.hd g'=R.hd g) (hy:ys=xs.set m x) :
    kj H (cL R e v (gs.set m g') ys :: cj (cj H j1) j2):=fun s ok hs=>by
  subst hy
  exact ⟨s,rfl,ok,G3 ((Holds.out hs hp1).perm (List.Perm.cons _ (jU _ _ _ hp2))) hg hh⟩
/-- .. as it was altogether -/
theorem Mo {α:Type} {R:RK α} {e:TypeId} {v:Value} {gs:List Value} {xs:List α} {m:Nat} {g:Value} {x:α} (j1 j2:Nat) (hp1:pick H j1=some (R.A g x)) (hp2:pick (cj H j1) j2=some (pT R e v gs xs m)) (hg:gs[m]?=some g) (hx:xs[m]?=some x) :
    kj H (cL R e v gs xs :: cj (cj H j1) j2):=by
  have h:=G1 (ys:=xs.set m x) j1 j2 hp1 hp2 hg rfl rfl
  have e1:gs.set m g=gs:=by rw [List.getElem?_eq_some_iff] at hg;obtain ⟨h1,rfl⟩:=hg;exact List.set_getElem_self ..
  have e2:xs.set m x=xs:=by rw [List.getElem?_eq_some_iff] at hx;obtain ⟨h1,rfl⟩:=hx;exact List.set_getElem_self ..
  rw [e1,e2] at h;exact h
/-- A new row's header is stored where one was taken out. -/
theorem ow {α:Type} {R:RK α} {e t:TypeId} {by_:Nat} {z v w:Value} {m:Nat} {gs:List Value} {xs ys:List α} {g':Value} {x:α} (j1 j2:Nat) (hp1:pick H j1=some (R.A g' x)) (hp2:pick (cj H j1) j2=some (pT R e v gs xs m)) (hm:m < xs.length) (hy:ys=xs.set m x) (hw:R.hd g'=w) (hv:pL H w [w]) (h1:∀ s,Holds s H→w.oneCell'=true)
    (h:dec n ops E i Km=some (t,dA v (m*1),w)) (ht:dM P t=some (false,1,by_,z)) (g:WI P n ops (i+1) Q (E.putO (eW ops i) undef) (cL R e v (gs.set m g') ys :: cj (cj H j1) j2)):WI P n ops i Q E H:=by
  subst hy;subst hw
  have hE:kj H (fact (gs.length=xs.length) :: bD Kd.raw e v (gs.map R.hd) :: ((dp R gs xs).set m uw++(R.A g' x :: cj (cj H j1) j2))):=fun s ok hs=>by
    refine ⟨s,rfl,ok,?_⟩
    have q1:=(Holds.out hs hp1).perm (List.Perm.cons _ (jU _ _ _ hp2))
    exact Holds.big.1 (q1.perm (List.Perm.swap ..))
  refine fun s ok hs=>?_
  have hlen:gs.length=xs.length:=(bV (H:=cj H j1) j2 hp2) s (Holds.out hs hp1).tail (fact (gs.length=xs.length)) (List.mem_cons_self ..)
  have key:WI P n ops i Q E (fact (R.hd g').oneCell' :: fact ((R.hd g').cells=[R.hd g'].toArray) :: fact (gs.length=xs.length) :: bD Kd.raw e v (gs.map R.hd) :: ((dp R gs xs).set m uw++(R.A g' x :: cj (cj H j1) j2))):=by
    refine kw (kd:=Kd.raw) (m:=m) (x0:=R.hd g') 3 () rfl (by rw [List.length_map,hlen];exact hm) rfl h ht (fun s hs=>hs.q (fact ((R.hd g').cells=[R.hd g'].toArray)) (List.mem_cons_of_mem _ (List.mem_cons_self ..))) (OC fun s hs=>hs.q (fact ((R.hd g').oneCell'=true)) (List.mem_cons_self ..)) ?_
    refine WI.ent (fun s ok hs=>⟨s,rfl,ok,?_⟩) g
    have q2:Holds s (bD Kd.raw e v ((gs.map R.hd).set m (R.hd g')) :: fact (gs.length=xs.length) :: ((dp R gs xs).set m uw++(R.A g' x :: cj (cj H j1) j2))) :=
      ((hs.perm (List.Perm.swap ..)).tail.perm (List.Perm.swap ..)).tail
    have q3:=q2.perm (List.Perm.swap ..)
    have q4:Holds s (uG (fact (gs.length=xs.length) :: bD Kd.raw e v ((gs.map R.hd).set m (R.hd g')) :: (dp R gs xs).set m uw) :: R.A g' x :: cj (cj H j1) j2):=Holds.big.2 q3
    have q5:=BV (m:=m+2) (a:=R.A g' x) (by
      show ((dp R gs xs).set m uw)[m]?=some uw
      rw [List.getElem?_set_self (by rw [wk hlen];omega)]) (q4.perm (List.Perm.swap ..))
    have e2:cL R e v (gs.set m g') (xs.set m x)=uG ((fact (gs.length=xs.length) :: bD Kd.raw e v ((gs.map R.hd).set m (R.hd g')) :: (dp R gs xs).set m uw).set (m+2) (R.A g' x)):=by
      unfold cL
      rw [List.map_set,ry (by omega) hm,List.length_set,List.length_set,List.set_cons_succ,List.set_cons_succ,List.set_set]
    rw [e2];exact q5
  have hE2:kj H (fact (R.hd g').oneCell' :: fact ((R.hd g').cells=[R.hd g'].toArray) :: fact (gs.length=xs.length) :: bD Kd.raw e v (gs.map R.hd) :: ((dp R gs xs).set m uw++(R.A g' x :: cj (cj H j1) j2))):=fun s ok hs=>by
    obtain ⟨s',ew,ok',hs'⟩:=hE s ok hs
    exact ⟨s',ew,ok',(hs'.consPr rfl (hv s hs)).consPr rfl (h1 s hs)⟩
  exact WI.ent hE2 key s ok hs
theorem Bm:∀ (A B:List aE) (k:Nat),pick (A++B) (A.length+k)=pick B k
  | [],B,k=>by simp
  | a :: A,B,k=>by
    rw [List.length_cons,show A.length+1+k=(A.length+k)+1 by omega]
    exact Bm A B k
theorem AR:∀ (A B:List aE) (k:Nat),cj (A++B) (A.length+k)=A++cj B k
  | [],B,k=>by simp
  | a :: A,B,k=>by
    rw [List.length_cons,show A.length+1+k=(A.length+k)+1 by omega]
    show a :: cj (A++B) (A.length+k)=_
    rw [AR A B k];rfl
theorem Kk {s:St} {A:List aE}:∀ (B:List aE) {C:List aE},Holds s (A++(B++C))→Holds s (A++C)
  | [],_,h=>h
  | b :: B,C,h=>Kk B ((h.perm (List.perm_middle (l₁:=A) (l₂:=B++C) (a:=b))).tail)
/-- An element of a row is stored. -/
theorem yg {α:Type} {kd:Kd α} {e e1 t:TypeId} {agg:Bool} {by_:Nat} {z v w:Value} {m k:Nat} {gs:List Value} {xs ys:List (List α)} {x x':List α} {g:Value} {y0:α} (j:Nat) (gh:kd.G) (hp:pick H j=some (cL (cY kd e1) e v gs xs)) (hg:gs[m]?=some g) (hx:xs[m]?=some x) (hk:k < x.length) (hx':x'=x.set k y0) (hy:ys=xs.set m x')
    (h:dec n ops E i Km=some (t,dA g (k*kd.size),w)) (ht:dM P t=some (agg,kd.size,by_,z)) (hv:pL H w (kd.cells y0 gh)) (hi:∀ s,Holds s H→∀ a ∈ kd.items y0 gh,a.q s)
    (gg:WI P n ops (i+1) Q (E.putO (eW ops i) undef) (cL (cY kd e1) e v gs ys :: cj H j)):WI P n ops i Q E H:=by
  refine WI.ent (H':=(fact (w.cells=(kd.cells y0 gh).toArray) :: kd.items y0 gh)++(bD kd e1 g x :: pT (cY kd e1) e v gs xs m :: cj H j)) (fun s ok hs=>⟨s,rfl,ok,?_⟩) ?_
  · exact (Holds.items (JZ (R:=cY kd e1) (Holds.out hs hp) hg hx) (hi s hs)).consPr rfl (hv s hs)
  · have hpk:pick ((fact (w.cells=(kd.cells y0 gh).toArray) :: kd.items y0 gh)++(bD kd e1 g x :: pT (cY kd e1) e v gs xs m :: cj H j)) ((fact (w.cells=(kd.cells y0 gh).toArray) :: kd.items y0 gh).length+0)=some (bD kd e1 g x):=Bm _ _ _
    refine kw _ gh hpk hk hx' h ht (fun s hs=>hs.q (fact (w.cells=(kd.cells y0 gh).toArray)) (List.mem_cons_self ..)) (fun s hs a ha=>hs.q a (List.mem_append_left _ (List.mem_cons_of_mem _ ha))) ?_
    refine WI.ent (fun s ok hs=>⟨s,rfl,ok,?_⟩) gg
    subst hy
    rw [AR] at hs
    have hs':Holds s ([bD kd e1 g x']++((fact (w.cells=(kd.cells y0 gh).toArray) :: kd.items y0 gh)++(pT (cY kd e1) e v gs xs m :: cj H j))):=hs
    have h2:Holds s (bD kd e1 g x' :: pT (cY kd e1) e v gs xs m :: cj H j):=Kk (A:=[bD kd e1 g x']) _ hs'
    have h3:=G3 (R:=cY kd e1) (g':=g) h2 hg rfl
    have e1:gs.set m g=gs:=by rw [List.getElem?_eq_some_iff] at hg;obtain ⟨h1,rfl⟩:=hg;exact List.set_getElem_self ..
    rw [e1] at h3;exact h3
/-- What a row is when it is nil. -/
def EJ {β:Type} (R:RK (List β)) (zg:Value):Prop:=R.hd zg=.slice none 0 0∧∀ (F:List aE) (s:St),Holds s F→Holds s (R.A zg [] :: F)
theorem ja {β:Type} {kd:Kd β} {e:TypeId}:EJ (cY kd e) (.slice none 0 0):=⟨rfl,fun F s h=>h.consPr rfl ⟨none,0,rfl,Nat.le_refl _,Nat.zero_le _,Nat.zero_le _,fun h=>absurd h (Nat.lt_irrefl 0)⟩⟩
theorem Bh {α:Type} {R:RK α} {e:TypeId} {s:St} {F:List aE} (h:Holds s F):Holds s (cL R e (.slice none 0 0) [] ([]:List α) :: F):=h.consPr rfl (fun y hy=>by
  rcases List.mem_cons.1 hy with rfl | hy
  · exact (rfl:([]:List Value).length=([]:List α).length)
  · rcases List.mem_cons.1 hy with rfl | hy
    · exact ⟨none,0,rfl,Nat.le_refl _,Nat.zero_le _,Nat.zero_le _,fun h=>absurd h (Nat.lt_irrefl 0)⟩
    · cases hy)
theorem FX {α:Type} {R:RK α} {e:TypeId}:EJ (vu R e) (tw (.slice none 0 0) []):=⟨rfl,fun F s h=>Bh h⟩
theorem Mq {α:Type} {R:RK α} {e:TypeId}:kj H (cL R e (.slice none 0 0) [] ([]:List α) :: H):=fun s ok hs=>⟨s,rfl,ok,Bh hs⟩
theorem BE {β:Type} {R:RK (List β)} {zg:Value} (hn:EJ R zg):∀ (k:Nat) (F:List aE) (s:St),Holds s F→Holds s (dp R (List.replicate k zg) (List.replicate k ([]:List β))++F)
  | 0,F,s,h=>h
  | k+1,F,s,h=>by
    show Holds s (R.A zg [] :: (dp R (List.replicate k zg) (List.replicate k ([]:List β))++F))
    exact hn.2 _ _ (BE hn k F s h)
/-- A made row of nil rows. -/
theorem Mp {β:Type} {R:RK (List β)} {zg:Value} {e:TypeId} {v:Value} {k:Nat} (hn:EJ R zg) (j:Nat) (hp:pick H j=some (bD Kd.raw e v (List.replicate k (.slice none 0 0)))):kj H (cL R e v (List.replicate k zg) (List.replicate k ([]:List β)) :: cj H j):=fun s ok hs=>by
  have h1:=Holds.out hs hp
  have e1':(List.replicate k zg).map R.hd=List.replicate k (.slice none 0 0):=by rw [List.map_replicate,hn.1]
  refine ⟨s,rfl,ok,Holds.big.2 ?_⟩
  show Holds s (fact _ :: bD Kd.raw e v _ :: (dp _ _ _++cj H j))
  rw [e1']
  refine Holds.consPr ?_ rfl (by show _=_;rw [List.length_replicate,List.length_replicate])
  exact (BE hn k _ s h1).perm List.perm_middle
theorem Jw {α β:Type} {b:Nat} {m n:Int} {x:α} {zs:List α} (h:pi b m n x=some zs) (y:β):pi b m n y=some (List.replicate m.toNat y)∧zs=List.replicate m.toNat x:=by
  unfold pi at h ⊢
  split at h
  · rename_i hc
    rw [if_pos hc];exact ⟨rfl,(Option.some.inj h).symm⟩
  · cases h
theorem ov {β:Type} (R:RK (List β)) {zg:Value} (hn:EJ R zg) {t e:TypeId} {by_:Nat} {z:Value} {kl kc:IntKind} {m N:Int} {zs:List (List β)} (hm:pi by_ m N ([]:List β)=some zs) (h:dec n ops E i O2=some (t,.int kl m,.int kc N)) (ht:rG P t=some e) (he:dM P e=some (false,1,by_,z))
    (hz:z=.slice none 0 0) (g:∀ v:Value,WI P n ops (i+1) Q (E.putO (eW ops i) v) (cL R e v (List.replicate m.toNat zg) zs :: H)):WI P n ops i Q E H:=by
  obtain ⟨h1,rfl⟩:=Jw hm (Value.slice none 0 0)
  subst hz
  exact qb (kd:=Kd.raw) () h1 h ht he rfl rfl (fun s hs a ha=>by rw [List.mem_singleton.1 ha];rfl) (fun v=>WI.ent (Mp hn 0 rfl) (g v))
/-- A header, and how long its slice is. -/
def qc (v:Value) (n:Nat):aE:=fact (∃ A c,v=.slice A n c∧(0 < n→A.isSome=true))
theorem kW {v:Value} {N:Nat} (j:Nat) (hp:pick H j=some (qc v N)):vZ H v N:=fun s hs=>hs.q _ (ce hp)
theorem aF {v:Value} {N:Nat} (h:vZ H v N):kj H (qc v N :: H):=fun s ok hs=>⟨s,rfl,ok,hs.consPr rfl (h s hs)⟩
/-- Rows that are slices. -/
def yy {β:Type} (R:RK (List β)):Prop:=∀ g x (s:St),(R.A g x).q s→∃ A c,R.hd g=.slice A x.length c∧(0 < x.length→A.isSome=true)
theorem KA {α:Type} {kd:Kd α} {e:TypeId} {v:Value} {xs:List α} {s:St} (h:(bD kd e v xs).q s):∃ A c,v=.slice A xs.length c∧(0 < xs.length→A.isSome=true):=by
  obtain ⟨A,c,hv,h1,_,_,h⟩:=h
  refine ⟨A,c,hv,fun h0=>?_⟩
  obtain ⟨g,_,_,rfl,_⟩:=h (by omega)
  rfl
theorem fe {β:Type} {kd:Kd β} {e:TypeId}:yy (cY kd e):=fun g x s h=>KA h
theorem Di {α:Type} {R:RK α} {e:TypeId}:yy (vu R e):=fun g x s h=>by
  have h1:(tg g).length=x.length:=h (fact _) (List.mem_cons_self ..)
  have h2:=KA (h (bD Kd.raw e (th g) ((tg g).map R.hd)) (List.mem_cons_of_mem _ (List.mem_cons_self ..)))
  rw [List.length_map,h1] at h2;exact h2
/-- facts are taken out -/
theorem WI.fact {q:Prop} (j:Nat) (hp:pick H j=some (Gw.fact q)) (k:q→WI P n ops i Q E H):WI P n ops i Q E H:=fun s ok hs=>k (hs.q _ (ce hp)) s ok hs
theorem WH.fact {q:Prop} {cd:Code} (j:Nat) (hp:pick H j=some (Gw.fact q)) (k:q→WH P n cd Q E H):WH P n cd Q E H:=fun s ok hs=>k (hs.q _ (ce hp)) s ok hs
theorem QH.fact {q:Prop} {x:Exit} (j:Nat) (hp:pick H j=some (Gw.fact q)) (k:q→QH Q x E H):QH Q x E H:=fun s ok hs=>k (hs.q _ (ce hp)) s ok hs
/-- The header of a row is loaded; what stands of it is kept. -/
theorem ou {β:Type} {R:RK (List β)} {e t:TypeId} {by_:Nat} {z v:Value} {m:Nat} {gs:List Value} {xs:List (List β)} {x:List β} (hr:yy R) (ho:wB H (cL R e v gs xs)) (hm:xs[m]?=some x) (h:dec n ops E i DT=some (t,dA v (m*1)))
    (ht:dM P t=some (false,1,by_,z)) (k:∀ g,WI P n ops (i+1) Q (E.putO (eW ops i) (R.hd g)) (Gw.fact (gs[m]?=some g) :: qc (R.hd g) x.length :: H)):WI P n ops i Q E H:=fun s ok hs=>by
  have hl:=xJ ho s hs
  have hlt:m < gs.length:=by rw [hl];exact (List.getElem?_eq_some_iff.1 hm).1
  have hg:gs[m]?=some gs[m]:=List.getElem?_eq_getElem hlt
  refine KL ho hm h ht (fun g hg=>?_) s ok hs
  exact WI.ent (fun s ok hs=>⟨s,rfl,ok,(hs.consPr rfl (hr g x s (rq ho hg hm s hs))).consPr rfl hg⟩) (k g)
/-- .. whose ghost is known -/
theorem ot {α:Type} {R:RK α} {e t:TypeId} {by_:Nat} {z v:Value} {m:Nat} {gs:List Value} {g:Value} (ho:wB H (bD Kd.raw e v (gs.map R.hd))) (hg:gs[m]?=some g) (h:dec n ops E i DT=some (t,dA v (m*1)))
    (ht:dM P t=some (false,1,by_,z)) (k:WI P n ops (i+1) Q (E.putO (eW ops i) (R.hd g)) H):WI P n ops i Q E H:=by
  refine qD (kd:=Kd.raw) (e:=e) (off:=0) (sz:=1) (agg:=false) (x0:=R.hd g) ho (by rw [List.getElem?_map,hg];rfl) (by rw [Addr.add_zero'];exact h) ht rfl rfl (fun _=>?_)
  exact WI.ent (fun s ok hs=>⟨s,rfl,ok,hs.tail⟩) k
/-- A row's ghost is named ahead. -/
theorem KG {β:Type} {R:RK (List β)} {e:TypeId} {v:Value} {m:Nat} {gs:List Value} {xs:List (List β)} {x:List β} {s:St} (hr:yy R) (ho:wB H (cL R e v gs xs)) (hm:xs[m]?=some x) (hs:Holds s H):∃ g,gs[m]?=some g∧Holds s (Gw.fact (gs[m]?=some g) :: qc (R.hd g) x.length :: H):=by
  have hl:=xJ ho s hs
  have hlt:m < gs.length:=by rw [hl];exact (List.getElem?_eq_some_iff.1 hm).1
  have hg:gs[m]?=some gs[m]:=List.getElem?_eq_getElem hlt
  exact ⟨gs[m],hg,(hs.consPr rfl (hr _ x s (rq ho hg hm s hs))).consPr rfl hg⟩
theorem WH.row {β:Type} {R:RK (List β)} {e:TypeId} {v:Value} {m:Nat} {gs:List Value} {xs:List (List β)} {x:List β} {cd:Code} (hr:yy R) (ho:wB H (cL R e v gs xs)) (hm:xs[m]?=some x) (k:∀ g,gs[m]?=some g→WH P n cd Q E (Gw.fact (gs[m]?=some g) :: qc (R.hd g) x.length :: H)):WH P n cd Q E H:=fun s ok hs=>by
  obtain ⟨g,hg,h⟩:=KG hr ho hm hs
  exact k g hg s ok h
theorem WI.row {β:Type} {R:RK (List β)} {e:TypeId} {v:Value} {m:Nat} {gs:List Value} {xs:List (List β)} {x:List β} (hr:yy R) (ho:wB H (cL R e v gs xs)) (hm:xs[m]?=some x) (k:∀ g,gs[m]?=some g→WI P n ops i Q E (Gw.fact (gs[m]?=some g) :: qc (R.hd g) x.length :: H)):WI P n ops i Q E H:=fun s ok hs=>by
  obtain ⟨g,hg,h⟩:=KG hr ho hm hs
  exact k g hg s ok h
/-- pointers to boxes as values -/
theorem zu {p:Value} {e:TypeId} {vs:List Value} (j:Nat) (hp:pick H j=some (bI p e vs)):∀ s,Holds s H→∃ b:Nat,p=.pointer (some ⟨b,0,none⟩):=fun s hs=>by
  obtain ⟨b,e,_⟩:=hs.q _ (ce hp);exact ⟨b,e⟩
theorem CL {p:Value} {e:TypeId} {vs:List Value} (j:Nat) (hp:pick H j=some (bI p e vs)):∀ s,Holds s H→p.oneCell'=true:=fun s hs=>by
  obtain ⟨b,rfl⟩:=zu j hp s hs;rfl
theorem Qf {p:Value} {e:TypeId} {vs:List Value} (j:Nat) (hp:pick H j=some (bI p e vs)):pL H p [p]:=fun s hs=>by
  obtain ⟨b,rfl⟩:=zu j hp s hs;rfl
theorem Qq {i:Nat} {p:Value} {e:TypeId} {vs:List Value} {ps ps':List (Nat × Value)} (j:Nat) (hp:pick H j=some (bI p e vs)) (t:vr H ps ps'):vr H ((i,p) :: ps) ((i,.agg #[p]) :: ps'):=fun s hs=>by
  rw [List.map_cons,List.map_cons,t s hs]
  obtain ⟨b,rfl⟩:=zu j hp s hs;rfl
theorem nn {α:Type} {R:RK α} {e:TypeId} {v:Value} {gs:List Value} {xs:List α} (j:Nat) (hp:pick H j=some (cL R e v gs xs)):∀ s,Holds s H→xs.length < 9223372036854775807:=Et (bV j hp)
/-- What a kind of row is when nobody writes it any more. -/
def Fz {α:Type} (R:RK α) (kd:Kd α):Prop:=kd.size=1∧∀ g x F,kj (R.A g x :: F) (pr (fun s=>kd.rd s x [R.hd g]) (fun _ _ h r=>kd.mono h r) :: F)
theorem kF {α:Type} {kd:Kd α} {e:TypeId}:Fz (cY kd e) (Kd.sl kd):=⟨rfl,fun g x F s ok hs=>by
  obtain ⟨s',ew,ok',hs'⟩:=kj.frz s ok hs
  refine ⟨s',ew,ok',hs'.tail.consPr rfl ⟨g,rfl,fun a ha=>?_⟩⟩
  rw [List.mem_singleton.1 ha];exact hs'.q _ (List.mem_cons_self ..)⟩
theorem Dh {α:Type} {R:RK α} {kd:Kd α} (hf:Fz R kd):∀ {gs:List Value} {xs:List α} {F:List aE},gs.length=xs.length→kj (dp R gs xs++F) (pr (fun s=>cW kd s xs (gs.map R.hd)) (fun _ _ h r=>r.mono h) :: F)
  | [],[],F,_=>kj.add _ rfl fun _ _ _=>rfl
  | [],_ :: _,_,h=>by simp at h
  | _ :: _,[],_,h=>by simp at h
  | g :: gs,x :: xs,F,h=>fun s ok hs=>by
    have h1:Holds s (R.A g x :: (dp R gs xs++F)):=hs
    obtain ⟨s1,w1,ok1,h2⟩:=hf.2 g x _ s ok h1
    obtain ⟨s2,w2,ok2,h3⟩:=Dh hf (F:=pr (fun s=>kd.rd s x [R.hd g]) (fun _ _ h r=>kd.mono h r) :: F) (by simpa using h) s1 ok1 (h2.perm List.perm_middle.symm)
    refine ⟨s2,w2.trans w1,ok2,h3.tail.tail.consPr rfl ?_⟩
    exact ⟨[R.hd g],gs.map R.hd,rfl,h3.q _ (List.mem_cons_of_mem _ (List.mem_cons_self ..)),h3.q _ (List.mem_cons_self ..)⟩
theorem Df {s:St}:∀ {vs cs:List Value},cW Kd.raw s vs cs→cs=vs
  | [],cs,h=>h
  | v :: vs,cs,⟨c,r,e,⟨_,hc,_⟩,hr⟩=>by
    subst e;rw [Df hr,hc];rfl
/-- The rows are frozen, the outer row is still ours. -/
theorem nm {α:Type} {R:RK α} {kd:Kd α} {e:TypeId} {v:Value} {gs:List Value} {xs:List α} (hf:Fz R kd) (j:Nat) (hp:pick H j=some (cL R e v gs xs)):kj H (bD kd e v xs :: cj H j):=fun s ok hs=>by
  have h1:Holds s (fact (gs.length=xs.length) :: bD Kd.raw e v (gs.map R.hd) :: (dp R gs xs++cj H j)):=Holds.big.1 (Holds.out hs hp)
  have hlen:gs.length=xs.length:=h1.q _ (List.mem_cons_self ..)
  have h2:Holds s (dp R gs xs++(bD Kd.raw e v (gs.map R.hd) :: cj H j)):=h1.tail.perm List.perm_middle.symm
  obtain ⟨s',ew,ok',h3⟩:=Dh hf hlen s ok h2
  refine ⟨s',ew,ok',?_⟩
  have hr:cW kd s' xs (gs.map R.hd):=h3.q _ (List.mem_cons_self ..)
  obtain ⟨A,c,hv,q1,q2,q3,q4⟩:=h3.q (bD Kd.raw e v (gs.map R.hd)) (List.mem_cons_of_mem _ (List.mem_cons_self ..))
  have h4:=h3.tail
  have hl2:(gs.map R.hd).length=xs.length:=by rw [List.length_map,hlen]
  refine ⟨fun y hy=>?_,fun k hk=>h4.own k hk,h4.nd⟩
  rcases List.mem_cons.1 hy with rfl | hy
  · refine ⟨A,c,by rw [hv,hl2],by rw [← hl2];exact q1,q2,by rw [← hl2];exact q3,fun hc=>?_⟩
    obtain ⟨g,cur,cs,rfl,hh,hs,ht,hrw⟩:=q4 hc
    have e2:=Df hrw
    subst e2
    refine ⟨g,cur,gs.map R.hd,rfl,hh,by rw [hf.1];exact hs,?_,hr⟩
    rw [hf.1,← hl2];exact ht
  · exact h4.q y (List.mem_cons_of_mem _ hy)
theorem wq {α:Type} {R:RK α} {kd:Kd α} {e:TypeId} {v:Value} {gs:List Value} {xs:List α} (hf:Fz R kd) (j:Nat) (hp:pick H j=some (cL R e v gs xs)):kj H (rx kd v xs :: cj H j):=kj.trans (nm hf j hp) kj.frz
theorem Jj {α:Type} {R:RK α} {kd:Kd α} {e:TypeId} (hf:Fz R kd):Fz (vu R e) (Kd.sl kd):=⟨rfl,fun g x F s ok hs=>by
  obtain ⟨s',ew,ok',hs'⟩:=wq (H:=cL R e (th g) (tg g) x :: F) hf 0 rfl s ok hs
  refine ⟨s',ew,ok',hs'.tail.consPr rfl ⟨th g,rfl,fun a ha=>?_⟩⟩
  rw [List.mem_singleton.1 ha];exact hs'.q _ (List.mem_cons_self ..)⟩
end
end Gw
