/- Own words: slices whose rows are owned too (trees), to any depth. -/
import Derived.Test.YtpjenmchinpgaaaGreatDoorGw6
set_option linter.unusedVariables false
namespace Gw
open Go Gv
/-- Results of several classes. -/
def M3{A B X Y:Type}(f:A→X→Y→Prop)(g:B→X→Y→Prop)(o:A ⊕ B)(v:X)(L:Y):Prop:=match o with | .inl a=>f a v L | .inr b=>g b v L
theorem P3{A B X Y:Type}{f:A→X→Y→Prop}{g:B→X→Y→Prop}{a:A}{v:X}{L:Y}(h:f a v L):M3 f g (.inl a) v L:=h
theorem P4{A B X Y:Type}{f:A→X→Y→Prop}{g:B→X→Y→Prop}{b:B}{v:X}{L:Y}(h:g b v L):M3 f g (.inr b) v L:=h
theorem KJ{A B α:Type}{f:A→Option α}{g:B→Option α}{a:A}{r:α}(h:C3 (.inl a) f g=some r):f a=some r:=h
theorem KL{A B α:Type}{f:A→Option α}{g:B→Option α}{b:B}{r:α}(h:C3 (.inr b) f g=some r):g b=some r:=h
def Qb(v:Value):aG:=pr (λ_=>v.oneCell'=true) (λ_ _ _ h=>h)
/-- A cell of which nothing is told. -/
def Kd.any:Kd Unit :=
 {size:=1,G:=Value,cells:=λ_ g=>[g],items:=λ_ g=>[Qb g],len:=λ_ _=>rfl,pers:=λ_ _ a h=>(by rw[List.mem_singleton] at h;subst h;rfl),
  one:=λs x _ h v hv=>by rw[List.mem_singleton] at hv;subst hv;exact h _ (List.mem_singleton.2 rfl) }
/-- Several assertions as one. -/
def uZ(L:List aG):aG:=⟨eB L,λs=>∀x∈L,x.q s,λa b h hb hq x hx=>x.st a b h (λk hk=>hb k (List.mem_flatMap.2 ⟨x,hx,hk⟩)) (hq x hx)⟩
/-- A kind of row: its ghost, its header, what it owns. -/
structure RK(α:Type) where
 hd:Value→Value
 A:Value→α→aG
abbrev db{α:Type}(kd:Kd α)(e:TypeId):RK (List α):=⟨id,λv x=>bE kd e v x⟩
/-- A tree's ghost as one value: its header and its rows' ghosts. -/
def tw(v:Value)(gs:List Value):Value:=.tuple ⟨v::gs⟩
def th(w:Value):Value:=match w with | .tuple ⟨v::_⟩=>v | _=>.slice none 0 0
def tg(w:Value):List Value:=match w with | .tuple ⟨_::gs⟩=>gs | _=>[]
/-- the rows' assertions, one emp where m is -/
def dy{α:Type}(R:RK α):List Value→List α→List aG
 | g::gs,x::xs=>R.A g x::dy R gs xs
 | _,_=>[]
def cP{α:Type}(R:RK α)(e:TypeId)(v:Value)(gs:List Value)(xs:List α):aG:=uZ (fact (gs.length=xs.length)::bE Kd.raw e v (gs.map R.hd)::dy R gs xs)
def pX{α:Type}(R:RK α)(e:TypeId)(v:Value)(gs:List Value)(xs:List α)(m:Nat):aG:=uZ (fact (gs.length=xs.length)::bE Kd.raw e v (gs.map R.hd)::(dy R gs xs).set m uO)
abbrev vX{α:Type}(R:RK α)(e:TypeId):RK (List α):=⟨th,λg xs=>cP R e (th g) (tg g) xs⟩
section
variable {H:List aG}
theorem uf(x:aG)(L:List aG):eB (x::L)=x.bs++eB L:=by simp[eB]
theorem vx(L M:List aG):eB (L++M)=eB L++eB M:=by simp[eB]
theorem Holds.big{s:St}{L:List aG}:Holds s (uZ L::H)↔Holds s (L++H):=by
 constructor
 ·intro h
  refine⟨λx hx=>?_,λk hk=>?_,?_⟩
  ·rcases List.mem_append.1 hx with hx | hx
   ·exact h.q (uZ L) (List.mem_cons_self ..) x hx
   ·exact h.q x (List.mem_cons_of_mem _ hx)
  ·exact h.own k (by rw[uf];rw[vx] at hk;exact hk)
  ·have:=h.nd;rw[uf] at this;rw[vx];exact this
 ·intro h
  refine⟨λx hx=>?_,λk hk=>?_,?_⟩
  ·rcases List.mem_cons.1 hx with rfl | hx
   ·exact λy hy=>h.q y (List.mem_append_left _ hy)
   ·exact h.q x (List.mem_append_right _ hx)
  ·exact h.own k (by rw[vx];rw[uf] at hk;exact hk)
  ·have:=h.nd;rw[vx] at this;rw[uf];exact this
theorem Holds.empI{s:St}(h:Holds s H):Holds s (uO::H):=h.consPr rfl trivial
theorem set_perm:∀{L:List aG} {m:Nat} {a b:aG},L[m]?=some a→(b::L).Perm (a::L.set m b)
 | x::L,0,a,b,h=>by simp at h;subst h;exact List.Perm.swap ..
 | x::L,m+1,a,b,h=>by
  have ih:=set_perm (L:=L) (m:=m) (a:=a) (b:=b) (by simpa using h)
  show(b::x::L).Perm (a::x::L.set m b)
  exact(List.Perm.swap x b L).trans ((ih.cons x).trans (List.Perm.swap a x _))
theorem zW{s:St}{L:List aG}{m:Nat}{a:aG}(h:L[m]?=some a)(hs:Holds s (uZ L::H)):Holds s (a::uZ (L.set m uO)::H):=by
 have h1:=Holds.empI (Holds.big.1 hs)
 have p:(uO::(L++H)).Perm (L.set m uO++(a::H)):=by
  have q:=(set_perm (b:=uO) h).append_right H
  exact q.trans (List.perm_middle (l₁:=L.set m uO) (l₂:=H) (a:=a)).symm
 exact(Holds.big.2 (h1.perm p)).perm (List.Perm.swap ..)
theorem Cl{s:St}{L:List aG}{m:Nat}{a:aG}(h:L[m]?=some uO)(hs:Holds s (a::uZ L::H)):Holds s (uZ (L.set m a)::H):=by
 have h1:=Holds.big.1 (hs.perm (List.Perm.swap ..))
 have p:(L++(a::H)).Perm (uO::(L.set m a++H)):=by
  have q:=(set_perm (b:=a) h).append_right H
  exact(List.perm_middle (l₁:=L) (l₂:=H) (a:=a)).trans q
 exact Holds.big.2 (h1.perm p).tail
end
theorem pC{α:Type}{R:RK α}:∀{gs:List Value} {xs:List α} {m:Nat} {g:Value} {x:α},gs[m]?=some g→xs[m]?=some x→(dy R gs xs)[m]?=some (R.A g x)
 | [],_,_,_,_,h,_=>by simp at h
 | _::_,[],_,_,_,_,h=>by simp at h
 | g0::gs,x0::xs,0,g,x,h1,h2=>by simp at h1 h2;subst h1;subst h2;rfl
 | g0::gs,x0::xs,m+1,g,x,h1,h2=>by
  show(dy R gs xs)[m]?=_
  exact pC (by simpa using h1) (by simpa using h2)
theorem rn{α:Type}{R:RK α}:∀{gs:List Value} {xs:List α} {m:Nat} {g:Value} {x:α},m<gs.length→m<xs.length→dy R (gs.set m g) (xs.set m x)=(dy R gs xs).set m (R.A g x)
 | [],_,_,_,_,h,_=>by simp at h
 | _::_,[],_,_,_,_,h=>by simp at h
 | g0::gs,x0::xs,0,g,x,_,_=>rfl
 | g0::gs,x0::xs,m+1,g,x,h1,h2=>by
  show R.A g0 x0::dy R (gs.set m g) (xs.set m x)=R.A g0 x0::(dy R gs xs).set m (R.A g x)
  rw[rn (by simpa using h1) (by simpa using h2)]
theorem wT{α:Type}{R:RK α}:∀{gs:List Value} {xs:List α},gs.length=xs.length→(dy R gs xs).length=xs.length
 | [],[],_=>rfl
 | [],_::_,h=>by simp at h
 | _::_,[],h=>by simp at h
 | _::gs,_::xs,h=>by show(dy R gs xs).length+1=xs.length+1;rw[wT (by simpa using h)]
/-- What H tells of. -/
def xh(H:List aG)(A:aG):Prop:=∀s,Holds s H→A.q s
section
variable {P:Program}{n:Nat}{Q:cQ}{E:Env}{H F:List aG}{ops:sH}{i:Nat}
theorem bX{A:aG}(j:Nat)(hp:pick H j=some A):xh H A:=λ_ hs=>hs.q _ (cj hp)
theorem yp{α:Type}{R:RK α}{e:TypeId}{v:Value}{gs:List Value}{xs:List α}(h:xh H (cP R e v gs xs)):∀s,Holds s H→gs.length=xs.length:=λs hs=>h s hs (fact (gs.length=xs.length)) (List.mem_cons_self ..)
theorem y9{α:Type}{R:RK α}{e:TypeId}{v:Value}{gs:List Value}{xs:List α}(h:xh H (cP R e v gs xs)):xh H (bE Kd.raw e v (gs.map R.hd)):=λs hs=>h s hs (bE Kd.raw e v (gs.map R.hd)) (List.mem_cons_of_mem _ (List.mem_cons_self ..))
theorem ri{α:Type}{R:RK α}{e:TypeId}{v:Value}{gs:List Value}{xs:List α}{m:Nat}{g:Value}{x:α}(h:xh H (cP R e v gs xs))(hg:gs[m]?=some g)(hx:xs[m]?=some x):xh H (R.A g x):=λs hs =>
 h s hs (R.A g x) (List.mem_cons_of_mem _ (List.mem_cons_of_mem _ (List.mem_of_getElem? (pC hg hx))))
theorem P1{α:Type}{R:RK α}{e:TypeId}{v:Value}{gs:List Value}{xs:List α}{m:Nat}(h:xh H (pX R e v gs xs m)):∀s,Holds s H→gs.length=xs.length:=λs hs=>h s hs (fact (gs.length=xs.length)) (List.mem_cons_self ..)
theorem ve{α:Type}{R:RK α}{e:TypeId}{v:Value}{gs:List Value}{xs:List α}{m:Nat}(h:xh H (pX R e v gs xs m)):xh H (bE Kd.raw e v (gs.map R.hd)):=λs hs=>h s hs (bE Kd.raw e v (gs.map R.hd)) (List.mem_cons_of_mem _ (List.mem_cons_self ..))
theorem AA{α:Type}{kd:Kd α}{e:TypeId}{v:Value}{xs:List α}(h:xh H (bE kd e v xs)):wJ H v xs.length:=λs hs=>by
 obtain⟨A,c,hv,h1,_,_,h⟩:=h s hs
 refine⟨A,c,hv,λh0=>?_⟩
 obtain⟨g,_,_,rfl,_⟩:=h (by omega)
 rfl
theorem aj{α:Type}{R:RK α}{e:TypeId}{v:Value}{gs:List Value}{xs:List α}(h:xh H (cP R e v gs xs)):wJ H v xs.length:=λs hs=>by
 have:=AA (y9 h) s hs
 rw[List.length_map,yp h s hs] at this;exact this
theorem BH{α:Type}{R:RK α}{e:TypeId}{v:Value}{gs:List Value}{xs:List α}{m:Nat}(h:xh H (pX R e v gs xs m)):wJ H v xs.length:=λs hs=>by
 have:=AA (ve h) s hs
 rw[List.length_map,P1 h s hs] at this;exact this
theorem G7{α:Type}{kd:Kd α}{e:TypeId}{v:Value}{xs:List α}(h:xh H (bE kd e v xs)):∀s,Holds s H→xs.length<9223372036854775807:=λs hs=>by
 obtain⟨A,c,_,_,_,h,_⟩:=h s hs;omega
theorem Fa{α:Type}{R:RK α}{e:TypeId}{v:Value}{gs:List Value}{xs:List α}(h:xh H (cP R e v gs xs)):∀s,Holds s H→xs.length<9223372036854775807:=λs hs=>by
 have:=G7 (y9 h) s hs
 rw[List.length_map,yp h s hs] at this;exact this
/-- A load of an element of what is owned somewhere. -/
theorem qy{α:Type}{kd:Kd α}{e t:TypeId}{agg:Bool}{sz by_:Nat}{z v:Value}{m:Nat}{xs:List α}{x0:α}(off:Nat)(hp:xh H (bE kd e v xs))(hm:xs[m]?=some x0)(h:dec n ops E i Ez=some (t,(dp v (m*kd.size)).add off))
  (ht:dR P t=some (agg,sz,by_,z)) (h1:(agg||Nat.beq sz 1)=true) (hfit:Nat.ble (off+sz) kd.size=true)
  (g:∀g,WI P n ops (i+1) Q (E.putO (eX ops i) (valOf agg (((kd.cells x0 g).drop off).take sz))) (kd.items x0 g++H)):WI P n ops i Q E H :=
 HX h ht h1 (λs ok hs=>by
  obtain⟨A,c,rfl,hq⟩:=hp s hs
  obtain⟨g,hi,hc⟩:=zi (N:=xs.length) (C:=c) hq hm
  refine⟨g,?_,λk u hu=>?_,Holds.items hs hi⟩
  ·have:=Nat.le_of_ble_eq_true hfit;rw[List.length_take,List.length_drop,kd.len];omega
  ·have:=hc _ u (um hu)
   rwa [Addr.add_add]) g
/-- A load of a row's header. -/
theorem OO{α:Type}{R:RK α}{e t:TypeId}{by_:Nat}{z v:Value}{m:Nat}{gs:List Value}{xs:List α}{x:α}(ho:xh H (bE Kd.raw e v (gs.map R.hd)))(hl:∀s,Holds s H→gs.length=xs.length)(hm:xs[m]?=some x)(h:dec n ops E i Ez=some (t,dp v (m*1)))
  (ht:dR P t=some (false,1,by_,z)) (g:∀g,gs[m]?=some g→WI P n ops (i+1) Q (E.putO (eX ops i) (R.hd g)) H):WI P n ops i Q E H:=λs ok hs=>by
 have hlt:m<gs.length:=by rw[hl s hs];exact(List.getElem?_eq_some_iff.1 hm).1
 have hg:gs[m]?=some gs[m]:=List.getElem?_eq_getElem hlt
 refine qy (kd:=Kd.raw) (e:=e) (off:=0) (sz:=1) (agg:=false) (x0:=R.hd gs[m]) ho (by rw[List.getElem?_map,hg];rfl) (by rw[Addr.add_zero'];exact h) ht rfl rfl (λ_=>?_) s ok hs
 exact WI.ent (λs ok hs=>⟨s,rfl,ok,hs.tail⟩) (g gs[m] hg)
theorem Lv{α:Type}{R:RK α}{e t:TypeId}{by_:Nat}{z v:Value}{m:Nat}{gs:List Value}{xs:List α}{x:α}(ho:xh H (cP R e v gs xs))(hm:xs[m]?=some x)(h:dec n ops E i Ez=some (t,dp v (m*1)))
  (ht:dR P t=some (false,1,by_,z)) (g:∀g,gs[m]?=some g→WI P n ops (i+1) Q (E.putO (eX ops i) (R.hd g)) H):WI P n ops i Q E H:=OO (y9 ho) (yp ho) hm h ht g
/-- A row is taken out of a tree. -/
theorem KR{α:Type}{R:RK α}{e:TypeId}{v:Value}{gs:List Value}{xs:List α}{m:Nat}{g:Value}{x:α}{s:St}(hs:Holds s (cP R e v gs xs::H))(hg:gs[m]?=some g)(hx:xs[m]?=some x):Holds s (R.A g x::pX R e v gs xs m::H):=by
 have hr:=pC (R:=R) hg hx
 exact zW (L:=fact (gs.length=xs.length)::bE Kd.raw e v (gs.map R.hd)::dy R gs xs) (m:=m+2) (by simpa using hr) hs
theorem jt{α:Type}{R:RK α}{e:TypeId}{v:Value}{gs:List Value}{xs:List α}{m:Nat}{g:Value}{x:α}(j:Nat)(hp:pick H j=some (cP R e v gs xs))(hg:gs[m]?=some g)(hx:xs[m]?=some x):kJ H (R.A g x::pX R e v gs xs m::ct H j):=λs ok hs=>by
 have h1:=Holds.out hs hp
 have hr:=pC (R:=R) hg hx
 refine⟨s,rfl,ok,?_⟩
 exact zW (L:=fact (gs.length=xs.length)::bE Kd.raw e v (gs.map R.hd)::dy R gs xs) (m:=m+2) (by simpa using hr) h1
theorem HR{α:Type}{R:RK α}{e:TypeId}{v:Value}{gs:List Value}{xs:List α}{m:Nat}{g g':Value}{x:α}{s:St}(h1:Holds s (R.A g' x::pX R e v gs xs m::H))(hg:gs[m]?=some g)(hh:R.hd g'=R.hd g):Holds s (cP R e v (gs.set m g') (xs.set m x)::H):=by
 have hlen:gs.length=xs.length:=h1.q (pX R e v gs xs m) (List.mem_cons_of_mem _ (List.mem_cons_self ..)) (fact (gs.length=xs.length)) (List.mem_cons_self ..)
 have hlt:m<gs.length:=(List.getElem?_eq_some_iff.1 hg).1
 have h2:=Cl (L:=fact (gs.length=xs.length)::bE Kd.raw e v (gs.map R.hd)::(dy R gs xs).set m uO) (m:=m+2) (a:=R.A g' x) (by
  show((dy R gs xs).set m uO)[m]?=some uO
  rw[List.getElem?_set_self (by rw[wT hlen];omega)]) h1
 have e1:(gs.set m g').map R.hd=gs.map R.hd:=by
  rw[List.map_set,hh]
  have:R.hd g=(gs.map R.hd)[m]'(by simpa using hlt):=by rw[List.getElem_map];rw[List.getElem?_eq_getElem hlt] at hg;cases hg;rfl
  rw[this,List.set_getElem_self]
 have e2:cP R e v (gs.set m g') (xs.set m x)=uZ ((fact (gs.length=xs.length)::bE Kd.raw e v (gs.map R.hd)::(dy R gs xs).set m uO).set (m+2) (R.A g' x)):=by
  unfold cP
  rw[e1,rn hlt (by omega),List.length_set,List.length_set,List.set_cons_succ,List.set_cons_succ,List.set_set]
 rw[e2];exact h2
/-- A row goes back, its header as it was. -/
theorem HP{α:Type}{R:RK α}{e:TypeId}{v:Value}{gs:List Value}{xs ys:List α}{m:Nat}{g g':Value}{x:α}(j1 j2:Nat)(hp1:pick H j1=some (R.A g' x))(hp2:pick (ct H j1) j2=some (pX R e v gs xs m))(hg:gs[m]?=some g)(hh:R.hd g'=R.hd g)(hy:ys=xs.set m x) :
  kJ H (cP R e v (gs.set m g') ys::ct (ct H j1) j2):=λs ok hs=>by
 subst hy
 exact⟨s,rfl,ok,HR ((Holds.out hs hp1).perm (List.Perm.cons _ (kx _ _ _ hp2))) hg hh⟩
/-- .. as it was altogether -/
theorem M8{α:Type}{R:RK α}{e:TypeId}{v:Value}{gs:List Value}{xs:List α}{m:Nat}{g:Value}{x:α}(j1 j2:Nat)(hp1:pick H j1=some (R.A g x))(hp2:pick (ct H j1) j2=some (pX R e v gs xs m))(hg:gs[m]?=some g)(hx:xs[m]?=some x) :
  kJ H (cP R e v gs xs::ct (ct H j1) j2):=by
 have h:=HP (ys:=xs.set m x) j1 j2 hp1 hp2 hg rfl rfl
 have e1:gs.set m g=gs:=by rw[List.getElem?_eq_some_iff] at hg;obtain⟨h1,rfl⟩:=hg;exact List.set_getElem_self ..
 have e2:xs.set m x=xs:=by rw[List.getElem?_eq_some_iff] at hx;obtain⟨h1,rfl⟩:=hx;exact List.set_getElem_self ..
 rw[e1,e2] at h;exact h
/-- A new row's header is stored where one was taken out. -/
theorem oI{α:Type}{R:RK α}{e t:TypeId}{by_:Nat}{z v w:Value}{m:Nat}{gs:List Value}{xs ys:List α}{g':Value}{x:α}(j1 j2:Nat)(hp1:pick H j1=some (R.A g' x))(hp2:pick (ct H j1) j2=some (pX R e v gs xs m))(hm:m<xs.length)(hy:ys=xs.set m x)(hw:R.hd g'=w)(hv:pQ H w [w])(h1:∀s,Holds s H→w.oneCell'=true)
  (h:dec n ops E i Lb=some (t,dp v (m*1),w)) (ht:dR P t=some (false,1,by_,z)) (g:WI P n ops (i+1) Q (E.putO (eX ops i) undef) (cP R e v (gs.set m g') ys::ct (ct H j1) j2)):WI P n ops i Q E H:=by
 subst hy;subst hw
 have hE:kJ H (fact (gs.length=xs.length)::bE Kd.raw e v (gs.map R.hd)::((dy R gs xs).set m uO++(R.A g' x::ct (ct H j1) j2))):=λs ok hs=>by
  refine⟨s,rfl,ok,?_⟩
  have q1:=(Holds.out hs hp1).perm (List.Perm.cons _ (kx _ _ _ hp2))
  exact Holds.big.1 (q1.perm (List.Perm.swap ..))
 refine λs ok hs=>?_
 have hlen:gs.length=xs.length:=(bX (H:=ct H j1) j2 hp2) s (Holds.out hs hp1).tail (fact (gs.length=xs.length)) (List.mem_cons_self ..)
 have key:WI P n ops i Q E (fact (R.hd g').oneCell'::fact ((R.hd g').cells=[R.hd g'].toArray)::fact (gs.length=xs.length)::bE Kd.raw e v (gs.map R.hd)::((dy R gs xs).set m uO++(R.A g' x::ct (ct H j1) j2))):=by
  refine kQ (kd:=Kd.raw) (m:=m) (x0:=R.hd g') 3 () rfl (by rw[List.length_map,hlen];exact hm) rfl h ht (λs hs=>hs.q (fact ((R.hd g').cells=[R.hd g'].toArray)) (List.mem_cons_of_mem _ (List.mem_cons_self ..))) (Ps λs hs=>hs.q (fact ((R.hd g').oneCell'=true)) (List.mem_cons_self ..)) ?_
  refine WI.ent (λs ok hs=>⟨s,rfl,ok,?_⟩) g
  have q2:Holds s (bE Kd.raw e v ((gs.map R.hd).set m (R.hd g'))::fact (gs.length=xs.length)::((dy R gs xs).set m uO++(R.A g' x::ct (ct H j1) j2))) :=
   ((hs.perm (List.Perm.swap ..)).tail.perm (List.Perm.swap ..)).tail
  have q3:=q2.perm (List.Perm.swap ..)
  have q4:Holds s (uZ (fact (gs.length=xs.length)::bE Kd.raw e v ((gs.map R.hd).set m (R.hd g'))::(dy R gs xs).set m uO)::R.A g' x::ct (ct H j1) j2):=Holds.big.2 q3
  have q5:=Cl (m:=m+2) (a:=R.A g' x) (by
   show((dy R gs xs).set m uO)[m]?=some uO
   rw[List.getElem?_set_self (by rw[wT hlen];omega)]) (q4.perm (List.Perm.swap ..))
  have e2:cP R e v (gs.set m g') (xs.set m x)=uZ ((fact (gs.length=xs.length)::bE Kd.raw e v ((gs.map R.hd).set m (R.hd g'))::(dy R gs xs).set m uO).set (m+2) (R.A g' x)):=by
   unfold cP
   rw[List.map_set,rn (by omega) hm,List.length_set,List.length_set,List.set_cons_succ,List.set_cons_succ,List.set_set]
  rw[e2];exact q5
 have hE2:kJ H (fact (R.hd g').oneCell'::fact ((R.hd g').cells=[R.hd g'].toArray)::fact (gs.length=xs.length)::bE Kd.raw e v (gs.map R.hd)::((dy R gs xs).set m uO++(R.A g' x::ct (ct H j1) j2))):=λs ok hs=>by
  obtain⟨s',ew,ok',hs'⟩:=hE s ok hs
  exact⟨s',ew,ok',(hs'.consPr rfl (hv s hs)).consPr rfl (h1 s hs)⟩
 exact WI.ent hE2 key s ok hs
theorem BS:∀(A B:List aG) (k:Nat),pick (A++B) (A.length+k)=pick B k
 | [],B,k=>by simp
 | a::A,B,k=>by
  rw[List.length_cons,show A.length+1+k=(A.length+k)+1 by omega]
  exact BS A B k
theorem Bs:∀(A B:List aG) (k:Nat),ct (A++B) (A.length+k)=A++ct B k
 | [],B,k=>by simp
 | a::A,B,k=>by
  rw[List.length_cons,show A.length+1+k=(A.length+k)+1 by omega]
  show a::ct (A++B) (A.length+k)=_
  rw[Bs A B k];rfl
theorem K9{s:St}{A:List aG}:∀(B:List aG) {C:List aG},Holds s (A++(B++C))→Holds s (A++C)
 | [],_,h=>h
 | b::B,C,h=>K9 B ((h.perm (List.perm_middle (l₁:=A) (l₂:=B++C) (a:=b))).tail)
/-- An element of a row is stored. -/
theorem yO{α:Type}{kd:Kd α}{e e1 t:TypeId}{agg:Bool}{by_:Nat}{z v w:Value}{m k:Nat}{gs:List Value}{xs ys:List (List α)}{x x':List α}{g:Value}{y0:α}(j:Nat)(gh:kd.G)(hp:pick H j=some (cP (db kd e1) e v gs xs))(hg:gs[m]?=some g)(hx:xs[m]?=some x)(hk:k<x.length)(hx':x'=x.set k y0)(hy:ys=xs.set m x')
  (h:dec n ops E i Lb=some (t,dp g (k*kd.size),w)) (ht:dR P t=some (agg,kd.size,by_,z)) (hv:pQ H w (kd.cells y0 gh)) (hi:∀s,Holds s H→∀a∈kd.items y0 gh,a.q s)
  (gg:WI P n ops (i+1) Q (E.putO (eX ops i) undef) (cP (db kd e1) e v gs ys::ct H j)):WI P n ops i Q E H:=by
 refine WI.ent (H':=(fact (w.cells=(kd.cells y0 gh).toArray)::kd.items y0 gh)++(bE kd e1 g x::pX (db kd e1) e v gs xs m::ct H j)) (λs ok hs=>⟨s,rfl,ok,?_⟩) ?_
 ·exact(Holds.items (KR (R:=db kd e1) (Holds.out hs hp) hg hx) (hi s hs)).consPr rfl (hv s hs)
 ·have hpk:pick ((fact (w.cells=(kd.cells y0 gh).toArray)::kd.items y0 gh)++(bE kd e1 g x::pX (db kd e1) e v gs xs m::ct H j)) ((fact (w.cells=(kd.cells y0 gh).toArray)::kd.items y0 gh).length+0)=some (bE kd e1 g x):=BS _ _ _
  refine kQ _ gh hpk hk hx' h ht (λs hs=>hs.q (fact (w.cells=(kd.cells y0 gh).toArray)) (List.mem_cons_self ..)) (λs hs a ha=>hs.q a (List.mem_append_left _ (List.mem_cons_of_mem _ ha))) ?_
  refine WI.ent (λs ok hs=>⟨s,rfl,ok,?_⟩) gg
  subst hy
  rw[Bs] at hs
  have hs':Holds s ([bE kd e1 g x']++((fact (w.cells=(kd.cells y0 gh).toArray)::kd.items y0 gh)++(pX (db kd e1) e v gs xs m::ct H j))):=hs
  have h2:Holds s (bE kd e1 g x'::pX (db kd e1) e v gs xs m::ct H j):=K9 (A:=[bE kd e1 g x']) _ hs'
  have h3:=HR (R:=db kd e1) (g':=g) h2 hg rfl
  have e1:gs.set m g=gs:=by rw[List.getElem?_eq_some_iff] at hg;obtain⟨h1,rfl⟩:=hg;exact List.set_getElem_self ..
  rw[e1] at h3;exact h3
/-- What a row is when it is nil. -/
def Fy{β:Type}(R:RK (List β))(zg:Value):Prop:=R.hd zg=.slice none 0 0∧∀(F:List aG) (s:St),Holds s F→Holds s (R.A zg []::F)
theorem jC{β:Type}{kd:Kd β}{e:TypeId}:Fy (db kd e) (.slice none 0 0):=⟨rfl,λF s h=>h.consPr rfl ⟨none,0,rfl,Nat.le_refl _,Nat.zero_le _,Nat.zero_le _,λh=>absurd h (Nat.lt_irrefl 0)⟩⟩
theorem BP{α:Type}{R:RK α}{e:TypeId}{s:St}{F:List aG}(h:Holds s F):Holds s (cP R e (.slice none 0 0) [] ([]:List α)::F):=h.consPr rfl (λy hy=>by
 rcases List.mem_cons.1 hy with rfl | hy
 ·exact(rfl:([]:List Value).length=([]:List α).length)
 ·rcases List.mem_cons.1 hy with rfl | hy
  ·exact⟨none,0,rfl,Nat.le_refl _,Nat.zero_le _,Nat.zero_le _,λh=>absurd h (Nat.lt_irrefl 0)⟩
  ·cases hy)
theorem GN{α:Type}{R:RK α}{e:TypeId}:Fy (vX R e) (tw (.slice none 0 0) []):=⟨rfl,λF s h=>BP h⟩
theorem Na{α:Type}{R:RK α}{e:TypeId}:kJ H (cP R e (.slice none 0 0) [] ([]:List α)::H):=λs ok hs=>⟨s,rfl,ok,BP hs⟩
theorem B5{β:Type}{R:RK (List β)}{zg:Value}(hn:Fy R zg):∀(k:Nat) (F:List aG) (s:St),Holds s F→Holds s (dy R (List.replicate k zg) (List.replicate k ([]:List β))++F)
 | 0,F,s,h=>h
 | k+1,F,s,h=>by
  show Holds s (R.A zg []::(dy R (List.replicate k zg) (List.replicate k ([]:List β))++F))
  exact hn.2 _ _ (B5 hn k F s h)
/-- A made row of nil rows. -/
theorem M9{β:Type}{R:RK (List β)}{zg:Value}{e:TypeId}{v:Value}{k:Nat}(hn:Fy R zg)(j:Nat)(hp:pick H j=some (bE Kd.raw e v (List.replicate k (.slice none 0 0)))):kJ H (cP R e v (List.replicate k zg) (List.replicate k ([]:List β))::ct H j):=λs ok hs=>by
 have h1:=Holds.out hs hp
 have e1':(List.replicate k zg).map R.hd=List.replicate k (.slice none 0 0):=by rw[List.map_replicate,hn.1]
 refine⟨s,rfl,ok,Holds.big.2 ?_⟩
 show Holds s (fact _::bE Kd.raw e v _::(dy _ _ _++ct H j))
 rw[e1']
 refine Holds.consPr ?_ rfl (by show _=_;rw[List.length_replicate,List.length_replicate])
 exact(B5 hn k _ s h1).perm List.perm_middle
theorem Kg{α β:Type}{b:Nat}{m n:Int}{x:α}{zs:List α}(h:o9 b m n x=some zs)(y:β):o9 b m n y=some (List.replicate m.toNat y)∧zs=List.replicate m.toNat x:=by
 unfold o9 at h ⊢
 split at h
 ·rename_i hc
  rw[if_pos hc];exact⟨rfl,(Option.some.inj h).symm⟩
 ·cases h
theorem oH{β:Type}(R:RK (List β)){zg:Value}(hn:Fy R zg){t e:TypeId}{by_:Nat}{z:Value}{kl kc:IntKind}{m N:Int}{zs:List (List β)}(hm:o9 by_ m N ([]:List β)=some zs)(h:dec n ops E i PW=some (t,.int kl m,.int kc N))(ht:rz P t=some e)(he:dR P e=some (false,1,by_,z))
  (hz:z=.slice none 0 0) (g:∀v:Value,WI P n ops (i+1) Q (E.putO (eX ops i) v) (cP R e v (List.replicate m.toNat zg) zs::H)):WI P n ops i Q E H:=by
 obtain⟨h1,rfl⟩:=Kg hm (Value.slice none 0 0)
 subst hz
 exact pq (kd:=Kd.raw) () h1 h ht he rfl rfl (λs hs a ha=>by rw[List.mem_singleton.1 ha];rfl) (λv=>WI.ent (M9 hn 0 rfl) (g v))
/-- A header, and how long its slice is. -/
def qe(v:Value)(n:Nat):aG:=fact (∃A c,v=.slice A n c∧(0<n→A.isSome=true))
theorem lB{v:Value}{N:Nat}(j:Nat)(hp:pick H j=some (qe v N)):wJ H v N:=λs hs=>hs.q _ (cj hp)
theorem aI{v:Value}{N:Nat}(h:wJ H v N):kJ H (qe v N::H):=λs ok hs=>⟨s,rfl,ok,hs.consPr rfl (h s hs)⟩
/-- Rows that are slices. -/
def yZ{β:Type}(R:RK (List β)):Prop:=∀g x (s:St),(R.A g x).q s→∃A c,R.hd g=.slice A x.length c∧(0<x.length→A.isSome=true)
theorem Ln{α:Type}{kd:Kd α}{e:TypeId}{v:Value}{xs:List α}{s:St}(h:(bE kd e v xs).q s):∃A c,v=.slice A xs.length c∧(0<xs.length→A.isSome=true):=by
 obtain⟨A,c,hv,h1,_,_,h⟩:=h
 refine⟨A,c,hv,λh0=>?_⟩
 obtain⟨g,_,_,rfl,_⟩:=h (by omega)
 rfl
theorem fo{β:Type}{kd:Kd β}{e:TypeId}:yZ (db kd e):=λg x s h=>Ln h
theorem DY{α:Type}{R:RK α}{e:TypeId}:yZ (vX R e):=λg x s h=>by
 have h1:(tg g).length=x.length:=h (fact _) (List.mem_cons_self ..)
 have h2:=Ln (h (bE Kd.raw e (th g) ((tg g).map R.hd)) (List.mem_cons_of_mem _ (List.mem_cons_self ..)))
 rw[List.length_map,h1] at h2;exact h2
/-- facts are taken out -/
theorem WI.fact{q:Prop}(j:Nat)(hp:pick H j=some (Gw.fact q))(k:q→WI P n ops i Q E H):WI P n ops i Q E H:=λs ok hs=>k (hs.q _ (cj hp)) s ok hs
theorem WH.fact{q:Prop}{cd:Code}(j:Nat)(hp:pick H j=some (Gw.fact q))(k:q→WH P n cd Q E H):WH P n cd Q E H:=λs ok hs=>k (hs.q _ (cj hp)) s ok hs
theorem QH.fact{q:Prop}{x:Exit}(j:Nat)(hp:pick H j=some (Gw.fact q))(k:q→QH Q x E H):QH Q x E H:=λs ok hs=>k (hs.q _ (cj hp)) s ok hs
/-- The header of a row is loaded; what stands of it is kept. -/
theorem oE{β:Type}{R:RK (List β)}{e t:TypeId}{by_:Nat}{z v:Value}{m:Nat}{gs:List Value}{xs:List (List β)}{x:List β}(hr:yZ R)(ho:xh H (cP R e v gs xs))(hm:xs[m]?=some x)(h:dec n ops E i Ez=some (t,dp v (m*1)))
  (ht:dR P t=some (false,1,by_,z)) (k:∀g,WI P n ops (i+1) Q (E.putO (eX ops i) (R.hd g)) (Gw.fact (gs[m]?=some g)::qe (R.hd g) x.length::H)):WI P n ops i Q E H:=λs ok hs=>by
 have hl:=yp ho s hs
 have hlt:m<gs.length:=by rw[hl];exact(List.getElem?_eq_some_iff.1 hm).1
 have hg:gs[m]?=some gs[m]:=List.getElem?_eq_getElem hlt
 refine Lv ho hm h ht (λg hg=>?_) s ok hs
 exact WI.ent (λs ok hs=>⟨s,rfl,ok,(hs.consPr rfl (hr g x s (ri ho hg hm s hs))).consPr rfl hg⟩) (k g)
/-- .. whose ghost is known -/
theorem oD{α:Type}{R:RK α}{e t:TypeId}{by_:Nat}{z v:Value}{m:Nat}{gs:List Value}{g:Value}(ho:xh H (bE Kd.raw e v (gs.map R.hd)))(hg:gs[m]?=some g)(h:dec n ops E i Ez=some (t,dp v (m*1)))
  (ht:dR P t=some (false,1,by_,z)) (k:WI P n ops (i+1) Q (E.putO (eX ops i) (R.hd g)) H):WI P n ops i Q E H:=by
 refine qy (kd:=Kd.raw) (e:=e) (off:=0) (sz:=1) (agg:=false) (x0:=R.hd g) ho (by rw[List.getElem?_map,hg];rfl) (by rw[Addr.add_zero'];exact h) ht rfl rfl (λ_=>?_)
 exact WI.ent (λs ok hs=>⟨s,rfl,ok,hs.tail⟩) k
/-- A row's ghost is named ahead. -/
theorem Lq{β:Type}{R:RK (List β)}{e:TypeId}{v:Value}{m:Nat}{gs:List Value}{xs:List (List β)}{x:List β}{s:St}(hr:yZ R)(ho:xh H (cP R e v gs xs))(hm:xs[m]?=some x)(hs:Holds s H):∃g,gs[m]?=some g∧Holds s (Gw.fact (gs[m]?=some g)::qe (R.hd g) x.length::H):=by
 have hl:=yp ho s hs
 have hlt:m<gs.length:=by rw[hl];exact(List.getElem?_eq_some_iff.1 hm).1
 have hg:gs[m]?=some gs[m]:=List.getElem?_eq_getElem hlt
 exact⟨gs[m],hg,(hs.consPr rfl (hr _ x s (ri ho hg hm s hs))).consPr rfl hg⟩
theorem WH.row{β:Type}{R:RK (List β)}{e:TypeId}{v:Value}{m:Nat}{gs:List Value}{xs:List (List β)}{x:List β}{cd:Code}(hr:yZ R)(ho:xh H (cP R e v gs xs))(hm:xs[m]?=some x)(k:∀g,gs[m]?=some g→WH P n cd Q E (Gw.fact (gs[m]?=some g)::qe (R.hd g) x.length::H)):WH P n cd Q E H:=λs ok hs=>by
 obtain⟨g,hg,h⟩:=Lq hr ho hm hs
 exact k g hg s ok h
theorem WI.row{β:Type}{R:RK (List β)}{e:TypeId}{v:Value}{m:Nat}{gs:List Value}{xs:List (List β)}{x:List β}(hr:yZ R)(ho:xh H (cP R e v gs xs))(hm:xs[m]?=some x)(k:∀g,gs[m]?=some g→WI P n ops i Q E (Gw.fact (gs[m]?=some g)::qe (R.hd g) x.length::H)):WI P n ops i Q E H:=λs ok hs=>by
 obtain⟨g,hg,h⟩:=Lq hr ho hm hs
 exact k g hg s ok h
/-- pointers to boxes as values -/
theorem zX{p:Value}{e:TypeId}{vs:List Value}(j:Nat)(hp:pick H j=some (bH p e vs)):∀s,Holds s H→∃b:Nat,p=.pointer (some ⟨b,0,none⟩):=λs hs=>by
 obtain⟨b,e,_⟩:=hs.q _ (cj hp);exact⟨b,e⟩
theorem Df{p:Value}{e:TypeId}{vs:List Value}(j:Nat)(hp:pick H j=some (bH p e vs)):∀s,Holds s H→p.oneCell'=true:=λs hs=>by
 obtain⟨b,rfl⟩:=zX j hp s hs;rfl
theorem Q4{p:Value}{e:TypeId}{vs:List Value}(j:Nat)(hp:pick H j=some (bH p e vs)):pQ H p [p]:=λs hs=>by
 obtain⟨b,rfl⟩:=zX j hp s hs;rfl
theorem Re{i:Nat}{p:Value}{e:TypeId}{vs:List Value}{ps ps':List (Nat×Value)}(j:Nat)(hp:pick H j=some (bH p e vs))(t:vV H ps ps'):vV H ((i,p)::ps) ((i,.agg #[p])::ps'):=λs hs=>by
 rw[List.map_cons,List.map_cons,t s hs]
 obtain⟨b,rfl⟩:=zX j hp s hs;rfl
theorem nY{α:Type}{R:RK α}{e:TypeId}{v:Value}{gs:List Value}{xs:List α}(j:Nat)(hp:pick H j=some (cP R e v gs xs)):∀s,Holds s H→xs.length<9223372036854775807:=Fa (bX j hp)
/-- What a kind of row is when nobody writes it any more. -/
def Fz{α:Type}(R:RK α)(kd:Kd α):Prop:=kd.size=1∧∀g x F,kJ (R.A g x::F) (pr (λs=>kd.rd s x [R.hd g]) (λ_ _ h r=>kd.mono h r)::F)
theorem kZ{α:Type}{kd:Kd α}{e:TypeId}:Fz (db kd e) (Kd.sl kd):=⟨rfl,λg x F s ok hs=>by
 obtain⟨s',ew,ok',hs'⟩:=kJ.frz s ok hs
 refine⟨s',ew,ok',hs'.tail.consPr rfl ⟨g,rfl,λa ha=>?_⟩⟩
 rw[List.mem_singleton.1 ha];exact hs'.q _ (List.mem_cons_self ..)⟩
theorem DX{α:Type}{R:RK α}{kd:Kd α}(hf:Fz R kd):∀{gs:List Value} {xs:List α} {F:List aG},gs.length=xs.length→kJ (dy R gs xs++F) (pr (λs=>c8 kd s xs (gs.map R.hd)) (λ_ _ h r=>r.mono h)::F)
 | [],[],F,_=>kJ.add _ rfl λ_ _ _=>rfl
 | [],_::_,_,h=>by simp at h
 | _::_,[],_,h=>by simp at h
 | g::gs,x::xs,F,h=>λs ok hs=>by
  have h1:Holds s (R.A g x::(dy R gs xs++F)):=hs
  obtain⟨s1,w1,ok1,h2⟩:=hf.2 g x _ s ok h1
  obtain⟨s2,w2,ok2,h3⟩:=DX hf (F:=pr (λs=>kd.rd s x [R.hd g]) (λ_ _ h r=>kd.mono h r)::F) (by simpa using h) s1 ok1 (h2.perm List.perm_middle.symm)
  refine⟨s2,w2.trans w1,ok2,h3.tail.tail.consPr rfl ?_⟩
  exact⟨[R.hd g],gs.map R.hd,rfl,h3.q _ (List.mem_cons_of_mem _ (List.mem_cons_self ..)),h3.q _ (List.mem_cons_self ..)⟩
theorem DW{s:St}:∀{vs cs:List Value},c8 Kd.raw s vs cs→cs=vs
 | [],cs,h=>h
 | v::vs,cs,⟨c,r,e,⟨_,hc,_⟩,hr⟩=>by
  subst e;rw[DW hr,hc];rfl
/-- The rows are frozen, the outer row is still ours. -/
theorem nX{α:Type}{R:RK α}{kd:Kd α}{e:TypeId}{v:Value}{gs:List Value}{xs:List α}(hf:Fz R kd)(j:Nat)(hp:pick H j=some (cP R e v gs xs)):kJ H (bE kd e v xs::ct H j):=λs ok hs=>by
 have h1:Holds s (fact (gs.length=xs.length)::bE Kd.raw e v (gs.map R.hd)::(dy R gs xs++ct H j)):=Holds.big.1 (Holds.out hs hp)
 have hlen:gs.length=xs.length:=h1.q _ (List.mem_cons_self ..)
 have h2:Holds s (dy R gs xs++(bE Kd.raw e v (gs.map R.hd)::ct H j)):=h1.tail.perm List.perm_middle.symm
 obtain⟨s',ew,ok',h3⟩:=DX hf hlen s ok h2
 refine⟨s',ew,ok',?_⟩
 have hr:c8 kd s' xs (gs.map R.hd):=h3.q _ (List.mem_cons_self ..)
 obtain⟨A,c,hv,q1,q2,q3,q4⟩:=h3.q (bE Kd.raw e v (gs.map R.hd)) (List.mem_cons_of_mem _ (List.mem_cons_self ..))
 have h4:=h3.tail
 have hl2:(gs.map R.hd).length=xs.length:=by rw[List.length_map,hlen]
 refine⟨λy hy=>?_,λk hk=>h4.own k hk,h4.nd⟩
 rcases List.mem_cons.1 hy with rfl | hy
 ·refine⟨A,c,by rw[hv,hl2],by rw[←hl2];exact q1,q2,by rw[←hl2];exact q3,λhc=>?_⟩
  obtain⟨g,cur,cs,rfl,hh,hs,ht,hrw⟩:=q4 hc
  have e2:=DW hrw
  subst e2
  refine⟨g,cur,gs.map R.hd,rfl,hh,by rw[hf.1];exact hs,?_,hr⟩
  rw[hf.1,←hl2];exact ht
 ·exact h4.q y (List.mem_cons_of_mem _ hy)
theorem wX{α:Type}{R:RK α}{kd:Kd α}{e:TypeId}{v:Value}{gs:List Value}{xs:List α}(hf:Fz R kd)(j:Nat)(hp:pick H j=some (cP R e v gs xs)):kJ H (rm kd v xs::ct H j):=kJ.trans (nX hf j hp) kJ.frz
theorem J0{α:Type}{R:RK α}{kd:Kd α}{e:TypeId}(hf:Fz R kd):Fz (vX R e) (Kd.sl kd):=⟨rfl,λg x F s ok hs=>by
 obtain⟨s',ew,ok',hs'⟩:=wX (H:=cP R e (th g) (tg g) x::F) hf 0 rfl s ok hs
 refine⟨s',ew,ok',hs'.tail.consPr rfl ⟨th g,rfl,λa ha=>?_⟩⟩
 rw[List.mem_singleton.1 ha];exact hs'.q _ (List.mem_cons_self ..)⟩
end
end Gw
