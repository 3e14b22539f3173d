/- Own words: rows that become ours one by one; rows that change places. -/
import Derived.Test.YtpjenmchinpgaaaGreatDoorGw7
set_option linter.unusedVariables false
namespace Gw
open Go Gv
/-- The first k rows are owned, the others frozen. -/
def j9{α:Type}(kd:Kd α)(e1:TypeId):Nat→List Value→List (List α)→List aG
 | 0,g::gs,x::xs=>rm kd g x::j9 kd e1 0 gs xs
 | k+1,g::gs,x::xs=>bE kd e1 g x::j9 kd e1 k gs xs
 | _,_,_=>[]
def pW{α:Type}(kd:Kd α)(e1 e:TypeId)(v:Value)(gs:List Value)(xs:List (List α))(k L:Nat):aG :=
 uZ (fact (gs.length=xs.length∧xs.length=L)::bE Kd.raw e v gs::j9 kd e1 k gs xs)
theorem uq{α:Type}{kd:Kd α}{e1:TypeId}:∀{k:Nat} {gs:List Value} {xs:List (List α)} {g:Value} {x:List α},gs[k]?=some g→xs[k]?=some x→(j9 kd e1 k gs xs)[k]?=some (rm kd g x)
 | _,[],_,_,_,h,_=>by simp at h
 | _,_::_,[],_,_,_,h=>by simp at h
 | 0,g0::gs,x0::xs,g,x,h1,h2=>by simp at h1 h2;subst h1;subst h2;rfl
 | k+1,g0::gs,x0::xs,g,x,h1,h2=>by
  show(j9 kd e1 k gs xs)[k]?=_
  exact uq (by simpa using h1) (by simpa using h2)
theorem zD{α:Type}{kd:Kd α}{e1:TypeId}:∀{k:Nat} {gs:List Value} {xs:List (List α)} {g:Value} {x:List α},k<gs.length→k<xs.length→(j9 kd e1 k gs xs).set k (bE kd e1 g x)=j9 kd e1 (k+1) (gs.set k g) (xs.set k x)
 | _,[],_,_,_,h,_=>by simp at h
 | _,_::_,[],_,_,_,h=>by simp at h
 | 0,g0::gs,x0::xs,g,x,_,_=>rfl
 | k+1,g0::gs,x0::xs,g,x,h1,h2=>by
  show bE kd e1 g0 x0::(j9 kd e1 k gs xs).set k (bE kd e1 g x)=bE kd e1 g0 x0::j9 kd e1 (k+1) (gs.set k g) (xs.set k x)
  rw[zD (by simpa using h1) (by simpa using h2)]
theorem wU{α:Type}{kd:Kd α}{e1:TypeId}:∀{k:Nat} {gs:List Value} {xs:List (List α)},gs.length=xs.length→(j9 kd e1 k gs xs).length=xs.length
 | 0,[],[],_=>rfl
 | k+1,[],[],_=>rfl
 | _,[],_::_,h=>by simp at h
 | _,_::_,[],h=>by simp at h
 | 0,_::gs,_::xs,h=>by show(j9 kd e1 0 gs xs).length+1=xs.length+1;rw[wU (by simpa using h)]
 | k+1,_::gs,_::xs,h=>by show(j9 kd e1 k gs xs).length+1=xs.length+1;rw[wU (by simpa using h)]
theorem zC{α:Type}{kd:Kd α}{e1:TypeId}:∀{k:Nat} {gs:List Value} {xs:List (List α)},gs.length=xs.length→xs.length=k→j9 kd e1 k gs xs=dy (db kd e1) gs xs
 | 0,[],[],_,_=>rfl
 | 0,[],_::_,h,_=>by simp at h
 | 0,_::_,[],h,_=>by simp at h
 | 0,_::_,_::_,_,h=>by simp at h
 | k+1,[],xs,h,h2=>by simp at h;omega
 | k+1,g::gs,[],h,h2=>by simp at h
 | k+1,g::gs,x::xs,h,h2=>by
  show bE kd e1 g x::j9 kd e1 k gs xs=bE kd e1 g x::dy (db kd e1) gs xs
  rw[zC (by simpa using h) (by simpa using h2)]
section
variable {P:Program}{n:Nat}{Q:cQ}{E:Env}{H F:List aG}{ops:sH}{i:Nat}
/-- Frozen rows of a row of headers. -/
theorem AL{α:Type}{kd:Kd α}{e1:TypeId}{s:St}:∀{xs:List (List α)} {cs:List Value} {F:List aG},c8 (Kd.sl kd) s xs cs→Holds s F→cs.length=xs.length∧c8 Kd.raw s cs cs∧Holds s (j9 kd e1 0 cs xs++F)
 | [],cs,F,h,hs=>by
  have:cs=[]:=h
  subst this;exact⟨rfl,rfl,hs⟩
 | x::xs,cs,F,⟨c,r,e,⟨g,hc,hi⟩,hr⟩,hs=>by
  have hc':c=[g]:=hc
  subst hc';subst e
  obtain⟨h1,h2,h3⟩:=AL (e1:=e1) hr hs
  refine⟨(congrArg (·+1) h1:r.length+1=xs.length+1),⟨[g],r,rfl,⟨(),rfl,λa ha=>?_⟩,h2⟩,?_⟩
  ·rw[List.mem_singleton.1 ha]
   exact(Kd.sl kd).one s x g hi g (List.mem_singleton.2 rfl)
  ·show Holds s (rm kd g x::(j9 kd e1 0 r xs++F))
   exact h3.consPr rfl (hi _ (List.mem_singleton.2 rfl))
theorem Mz{α:Type}{kd:Kd α}{e1 e:TypeId}{v:Value}{xs:List (List α)}{s:St}(j:Nat)(hp:pick H j=some (bE (Kd.sl kd) e v xs))(hs:Holds s H):∃gs,Holds s (pW kd e1 e v gs xs 0 xs.length::ct H j):=by
 have h1:=Holds.out hs hp
 obtain⟨A,c,rfl,q1,q2,q3,q4⟩:=h1.q _ (List.mem_cons_self ..)
 by_cases hc:0<c
 ·obtain⟨b,cur,cs,rfl,hh,hsz,htk,hrow⟩:=q4 hc
  obtain⟨l1,l2,l3⟩:=AL (e1:=e1) hrow h1.tail
  refine⟨cs,Holds.big.2 ?_⟩
  have hown:(bE Kd.raw e (.slice (some ⟨b,0,none⟩) xs.length c) cs).q s:=by
   refine⟨_,c,by rw[l1],by rw[l1];exact q1,q2,by rw[l1];exact q3,λ_=>⟨b,cur,cs,rfl,hh,hsz,by rw[l1];exact htk,l2⟩⟩
  have h5:Holds s (bE Kd.raw e (.slice (some ⟨b,0,none⟩) xs.length c) cs::ct H j):=by
   refine⟨λy hy=>?_,λk hk=>h1.own k hk,h1.nd⟩
   rcases List.mem_cons.1 hy with rfl | hy
   ·exact hown
   ·exact h1.q y (List.mem_cons_of_mem _ hy)
  obtain⟨_,_,h6⟩:=AL (e1:=e1) hrow h5
  show Holds s (fact _::bE Kd.raw e _ cs::(j9 kd e1 0 cs xs++ct H j))
  exact(h6.perm List.perm_middle).consPr rfl ⟨l1,rfl⟩
 ·have hx:xs=[]:=List.eq_nil_of_length_eq_zero (by omega)
  subst hx
  refine⟨[],Holds.big.2 ?_⟩
  show Holds s (fact _::bE Kd.raw e _ []::([]++ct H j))
  refine Holds.consPr ?_ rfl ⟨rfl,rfl⟩
  refine⟨λy hy=>?_,λk hk=>h1.own k hk,h1.nd⟩
  rcases List.mem_cons.1 hy with rfl | hy
  ·exact⟨A,c,rfl,q1,q2,q3,λh=>absurd h hc⟩
  ·exact h1.q y (List.mem_cons_of_mem _ hy)
theorem WH.half{α:Type}{kd:Kd α}(e1:TypeId){e:TypeId}{v:Value}{xs:List (List α)}{cd:Code}(j:Nat)(hp:pick H j=some (bE (Kd.sl kd) e v xs))(k:∀gs,WH P n cd Q E (pW kd e1 e v gs xs 0 xs.length::ct H j)):WH P n cd Q E H:=λs ok hs=>by
 obtain⟨gs,h⟩:=Mz (e1:=e1) j hp hs
 exact k gs s ok h
theorem Ap{α:Type}{kd:Kd α}{e1 e:TypeId}{v:Value}{gs:List Value}{xs:List (List α)}{k L:Nat}{s:St}(h:(pW kd e1 e v gs xs k L).q s):gs.length=xs.length∧xs.length=L:=h (fact (gs.length=xs.length∧xs.length=L)) (List.mem_cons_self ..)
theorem Gs{α:Type}{kd:Kd α}{e1 e:TypeId}{v:Value}{gs:List Value}{xs:List (List α)}{k L:Nat}(h:xh H (pW kd e1 e v gs xs k L)):xh H (bE Kd.raw e v gs):=λs hs=>h s hs (bE Kd.raw e v gs) (List.mem_cons_of_mem _ (List.mem_cons_self ..))
theorem BE{α:Type}{kd:Kd α}{e1 e:TypeId}{v:Value}{gs:List Value}{xs:List (List α)}{k L:Nat}(h:xh H (pW kd e1 e v gs xs k L)):wJ H v xs.length:=λs hs=>by
 have:=AA (Gs h) s hs
 rw[(Ap (h s hs)).1] at this;exact this
/-- The next row is loaded: it is frozen still. -/
theorem Nk{α:Type}{kd:Kd α}{e1 e t:TypeId}{by_:Nat}{z v:Value}{k L:Nat}{gs:List Value}{xs:List (List α)}{x:List α}(j:Nat)(hp:pick H j=some (pW kd e1 e v gs xs k L))(hm:xs[k]?=some x)(h:dec n ops E i Ez=some (t,dp v (k*1)))
  (ht:dR P t=some (false,1,by_,z)) (kk:∀g,WI P n ops (i+1) Q (E.putO (eX ops i) g) (rm kd g x::H)):WI P n ops i Q E H:=λs ok hs=>by
 have hq:=hs.q _ (cj hp)
 have hl:=Ap hq
 have hlt:k<gs.length:=by rw[hl.1];exact(List.getElem?_eq_some_iff.1 hm).1
 have hg:gs[k]?=some gs[k]:=List.getElem?_eq_getElem hlt
 have hr:(rm kd gs[k] x).q s:=hq _ (List.mem_cons_of_mem _ (List.mem_cons_of_mem _ (List.mem_of_getElem? (uq hg hm))))
 refine qy (kd:=Kd.raw) (e:=e) (off:=0) (sz:=1) (agg:=false) (x0:=gs[k]) (Gs (bX j hp)) hg (by rw[Addr.add_zero'];exact h) ht rfl rfl (λ_=>?_) s ok hs
 exact WI.ent (λs' ok hs'=>⟨s',rfl,ok,hs'.tail.consPr rfl (hs'.tail.q _ (cj hp) _ (List.mem_cons_of_mem _ (List.mem_cons_of_mem _ (List.mem_of_getElem? (uq hg hm)))))⟩) (kk gs[k])
/-- An own row takes its place. -/
theorem Nq{α:Type}{kd:Kd α}{e1 e t:TypeId}{by_:Nat}{z v w:Value}{k L:Nat}{gs:List Value}{xs ys:List (List α)}{x:List α}(j1 j2:Nat)(hp1:pick H j1=some (bE kd e1 w x))(hp2:pick (ct H j1) j2=some (pW kd e1 e v gs xs k L))(hm:k<xs.length)(hy:ys=xs.set k x)(hv:pQ H w [w])(h1:∀s,Holds s H→w.oneCell'=true)
  (h:dec n ops E i Lb=some (t,dp v (k*1),w)) (ht:dR P t=some (false,1,by_,z)) (g:WI P n ops (i+1) Q (E.putO (eX ops i) undef) (pW kd e1 e v (gs.set k w) ys (k+1) L::ct (ct H j1) j2)):WI P n ops i Q E H:=by
 subst hy
 refine λs ok hs=>?_
 have hl:gs.length=xs.length∧xs.length=L:=Ap ((bX (H:=ct H j1) j2 hp2) s (Holds.out hs hp1).tail)
 have hlt:k<gs.length:=by omega
 have hE:kJ H (fact (w.oneCell'=true)::fact (w.cells=[w].toArray)::fact (gs.length=xs.length∧xs.length=L)::bE Kd.raw e v gs::((j9 kd e1 k gs xs).set k uO++(bE kd e1 w x::ct (ct H j1) j2))):=λs ok hs=>by
  refine⟨s,rfl,ok,?_⟩
  have q1:=(Holds.out hs hp1).perm (List.Perm.cons _ (kx _ _ _ hp2))
  have q2:Holds s (pW kd e1 e v gs xs k L::bE kd e1 w x::ct (ct H j1) j2):=q1.perm (List.Perm.swap ..)
  have q3:=zW (m:=k+2) (a:=rm kd gs[k] xs[k]) (by show(j9 kd e1 k gs xs)[k]?=_;exact uq (List.getElem?_eq_getElem hlt) (List.getElem?_eq_getElem hm)) q2
  have q4:=Holds.big.1 q3.tail
  exact(q4.consPr rfl (hv s hs)).consPr rfl (h1 s hs)
 have key:WI P n ops i Q E (fact (w.oneCell'=true)::fact (w.cells=[w].toArray)::fact (gs.length=xs.length∧xs.length=L)::bE Kd.raw e v gs::((j9 kd e1 k gs xs).set k uO++(bE kd e1 w x::ct (ct H j1) j2))):=by
  refine kQ (kd:=Kd.raw) (m:=k) (x0:=w) 3 () rfl hlt rfl h ht (λs hs=>hs.q (fact (w.cells=[w].toArray)) (List.mem_cons_of_mem _ (List.mem_cons_self ..))) (Ps λs hs=>hs.q (fact (w.oneCell'=true)) (List.mem_cons_self ..)) ?_
  refine WI.ent (λs ok hs=>⟨s,rfl,ok,?_⟩) g
  have q2:Holds s (bE Kd.raw e v (gs.set k w)::fact (gs.length=xs.length∧xs.length=L)::((j9 kd e1 k gs xs).set k uO++(bE kd e1 w x::ct (ct H j1) j2))) :=
   ((hs.perm (List.Perm.swap ..)).tail.perm (List.Perm.swap ..)).tail
  have q3:Holds s (fact ((gs.set k w).length=(xs.set k x).length∧(xs.set k x).length=L)::bE Kd.raw e v (gs.set k w)::((j9 kd e1 k gs xs).set k uO++(bE kd e1 w x::ct (ct H j1) j2))) :=
   ((q2.perm (List.Perm.swap ..)).tail).consPr rfl ⟨by rw[List.length_set,List.length_set];exact hl.1,by rw[List.length_set];exact hl.2⟩
  have q4:Holds s (uZ (fact ((gs.set k w).length=(xs.set k x).length∧(xs.set k x).length=L)::bE Kd.raw e v (gs.set k w)::(j9 kd e1 k gs xs).set k uO)::bE kd e1 w x::ct (ct H j1) j2):=Holds.big.2 q3
  have q5:=Cl (m:=k+2) (a:=bE kd e1 w x) (by
   show((j9 kd e1 k gs xs).set k uO)[k]?=some uO
   rw[List.getElem?_set_self (by rw[wU hl.1];exact hm)]) (q4.perm (List.Perm.swap ..))
  have e2:pW kd e1 e v (gs.set k w) (xs.set k x) (k+1) L=uZ ((fact ((gs.set k w).length=(xs.set k x).length∧(xs.set k x).length=L)::bE Kd.raw e v (gs.set k w)::(j9 kd e1 k gs xs).set k uO).set (k+2) (bE kd e1 w x)):=by
   unfold pW
   rw[←zD hlt hm,List.set_cons_succ,List.set_cons_succ,List.set_set]
  rw[e2];exact q5
 exact WI.ent hE key s ok hs
/-- All rows are ours. -/
theorem Gr{α:Type}{kd:Kd α}{e1 e:TypeId}{v:Value}{gs:List Value}{xs:List (List α)}{k:Nat}(j:Nat)(hp:pick H j=some (pW kd e1 e v gs xs k k)):kJ H (cP (db kd e1) e v gs xs::ct H j):=λs ok hs=>by
 have h1:=Holds.out hs hp
 have hl:=Ap (h1.q _ (List.mem_cons_self ..))
 refine⟨s,rfl,ok,?_⟩
 have h2:=Holds.big.1 h1
 refine Holds.big.2 ?_
 have e2:gs.map (db kd e1).hd=gs:=by show gs.map id=gs;rw[List.map_id]
 show Holds s (fact (gs.length=xs.length)::bE Kd.raw e v (gs.map (db kd e1).hd)::(dy (db kd e1) gs xs++ct H j))
 rw[e2,←zC (k:=k) hl.1 hl.2]
 exact(show Holds s (fact (gs.length=xs.length∧xs.length=k)::bE Kd.raw e v gs::(j9 kd e1 k gs xs++ct H j)) from h2).tail.consPr rfl hl.1
/-- A tree whose headers are being changed. -/
def wK{α:Type}(R:RK α)(e:TypeId)(v:Value)(hs:List Value)(gs:List Value)(xs:List α):aG:=uZ (fact (gs.length=xs.length∧hs.length=xs.length)::bE Kd.raw e v hs::dy R gs xs)
theorem Kc{α:Type}{R:RK α}{e:TypeId}{v:Value}{hs gs:List Value}{xs:List α}{s:St}(h:(wK R e v hs gs xs).q s):gs.length=xs.length∧hs.length=xs.length:=h (fact (gs.length=xs.length∧hs.length=xs.length)) (List.mem_cons_self ..)
theorem HS{α:Type}{R:RK α}{e:TypeId}{v:Value}{gs:List Value}{xs:List α}(j:Nat)(hp:pick H j=some (cP R e v gs xs)):kJ H (wK R e v (gs.map R.hd) gs xs::ct H j):=λs ok hs=>by
 have h2:=Holds.big.1 (Holds.out hs hp)
 have hl:gs.length=xs.length:=h2.q (fact (gs.length=xs.length)) (List.mem_cons_self ..)
 refine⟨s,rfl,ok,Holds.big.2 ?_⟩
 exact(show Holds s (fact (gs.length=xs.length)::bE Kd.raw e v (gs.map R.hd)::(dy R gs xs++ct H j)) from h2).tail.consPr rfl ⟨hl,by rw[List.length_map];exact hl⟩
theorem Ly{α:Type}{R:RK α}{e t:TypeId}{by_:Nat}{z v w:Value}{m:Nat}{hs gs:List Value}{xs:List α}{x:α}(j:Nat)(hp:pick H j=some (wK R e v hs gs xs))(hm:xs[m]?=some x)(hv:pQ H w [w])(h1:∀s,Holds s H→w.oneCell'=true)
  (h:dec n ops E i Lb=some (t,dp v (m*1),w)) (ht:dR P t=some (false,1,by_,z)) (g:WI P n ops (i+1) Q (E.putO (eX ops i) undef) (wK R e v (hs.set m w) gs xs::ct H j)):WI P n ops i Q E H:=λs ok hs0=>by
 have hl:=Kc (hs0.q _ (cj hp))
 have hlt:m<hs.length:=by rw[hl.2];exact(List.getElem?_eq_some_iff.1 hm).1
 refine WI.ent (H':=fact (w.oneCell'=true)::fact (w.cells=[w].toArray)::fact (gs.length=xs.length∧hs.length=xs.length)::bE Kd.raw e v hs::(dy R gs xs++ct H j)) (λs ok hs=>?_) ?_ s ok hs0
 ·exact⟨s,rfl,ok,((Holds.big.1 (Holds.out hs hp)).consPr rfl (hv s hs)).consPr rfl (h1 s hs)⟩
 ·refine kQ (kd:=Kd.raw) (m:=m) (x0:=w) 3 () rfl hlt rfl h ht (λs hs=>hs.q (fact (w.cells=[w].toArray)) (List.mem_cons_of_mem _ (List.mem_cons_self ..))) (Ps λs hs=>hs.q (fact (w.oneCell'=true)) (List.mem_cons_self ..)) ?_
  refine WI.ent (λs ok hs'=>⟨s,rfl,ok,Holds.big.2 ?_⟩) g
  have q2:Holds s (bE Kd.raw e v (hs.set m w)::fact (gs.length=xs.length∧hs.length=xs.length)::(dy R gs xs++ct H j)) :=
   ((hs'.perm (List.Perm.swap ..)).tail.perm (List.Perm.swap ..)).tail
  exact((q2.perm (List.Perm.swap ..)).tail).consPr rfl ⟨hl.1,by rw[List.length_set];exact hl.2⟩
theorem ER{L:List aG}{a b:Nat}{x y:aG}(ha:L[a]?=some x)(hb:L[b]?=some y):((L.set a y).set b x).Perm L:=by
 by_cases hab:a=b
 ·subst hab
  rw[ha] at hb;cases hb
  rw[List.set_set]
  obtain⟨h1,rfl⟩:=List.getElem?_eq_some_iff.1 ha
  rw[List.set_getElem_self]
 ·have p1:(y::L).Perm (x::L.set a y):=set_perm ha
  have hb':(L.set a y)[b]?=some y:=by rw[List.getElem?_set_ne hab];exact hb
  have p2:(x::L.set a y).Perm (y::(L.set a y).set b x):=set_perm hb'
  exact(List.Perm.cons_inv (p1.trans p2)).symm
/-- Two rows have changed places. -/
theorem CP{α:Type}{R:RK α}{e:TypeId}{v:Value}{gs:List Value}{xs ys:List α}{a b:Nat}{ga gb:Value}{xa xb:α}(j:Nat)(hp:pick H j=some (wK R e v (((gs.map R.hd).set a (R.hd gb)).set b (R.hd ga)) gs xs))(hga:gs[a]?=some ga)(hgb:gs[b]?=some gb)(hxa:xs[a]?=some xa)(hxb:xs[b]?=some xb)(hy:ys=(xs.set a xb).set b xa) :
  kJ H (cP R e v ((gs.set a gb).set b ga) ys::ct H j):=λs ok hs=>by
 subst hy
 have h2:=Holds.big.1 (Holds.out hs hp)
 have hl:gs.length=xs.length:=(h2.q (fact _) (List.mem_cons_self ..):_∧_).1
 refine⟨s,rfl,ok,Holds.big.2 ?_⟩
 have la:a<gs.length:=(List.getElem?_eq_some_iff.1 hga).1
 have lb:b<gs.length:=(List.getElem?_eq_some_iff.1 hgb).1
 have e1:((gs.set a gb).set b ga).map R.hd=((gs.map R.hd).set a (R.hd gb)).set b (R.hd ga):=by rw[List.map_set,List.map_set]
 have e2:dy R ((gs.set a gb).set b ga) ((xs.set a xb).set b xa)=((dy R gs xs).set a (R.A gb xb)).set b (R.A ga xa):=by
  rw[rn (by rw[List.length_set];exact lb) (by rw[List.length_set];omega),rn la (by omega)]
 have h3:Holds s (bE Kd.raw e v (((gs.map R.hd).set a (R.hd gb)).set b (R.hd ga))::(dy R gs xs++ct H j)):=h2.tail
 show Holds s (fact _::bE Kd.raw e v _::(dy R _ _++ct H j))
 rw[e1,e2]
 refine Holds.consPr ?_ rfl (by simp only[List.length_set];exact hl)
 exact h3.perm (List.Perm.cons _ ((ER (pC hga hxa) (pC hgb hxb)).symm.append_right _))
end
end Gw
