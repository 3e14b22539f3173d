/- Own words: rows that become ours one by one; rows that change places. -/
import Derived.Test.YtkmbblnepjofaaaGreatDoorGw7
set_option linter.unusedVariables false
namespace Gw
open Go Gv
/-- The first k rows are owned, the others frozen. -/
def fI {α:Type} (kd:Kd α) (e1:TypeId):Nat→List Value→List (List α)→List aC
  | 0,g :: gs,x :: xs=>nt kd g x :: fI kd e1 0 gs xs
  | k+1,g :: gs,x :: xs=>bb kd e1 g x :: fI kd e1 k gs xs
  | _,_,_=>[]
def lI {α:Type} (kd:Kd α) (e1 e:TypeId) (v:Value) (gs:List Value) (xs:List (List α)) (k L:Nat):aC :=
  pR (fact (gs.length=xs.length∧xs.length=L) :: bb Kd.raw e v gs :: fI kd e1 k gs xs)
theorem pn {α:Type} {kd:Kd α} {e1:TypeId}:∀ {k:Nat} {gs:List Value} {xs:List (List α)} {g:Value} {x:List α},gs[k]?=some g→xs[k]?=some x→(fI kd e1 k gs xs)[k]?=some (nt kd g x)
  | _,[],_,_,_,h,_=>by simp at h
  | _,_ :: _,[],_,_,_,h=>by simp at h
  | 0,g0 :: gs,x0 :: xs,g,x,h1,h2=>by simp at h1 h2;subst h1;subst h2;rfl
  | k+1,g0 :: gs,x0 :: xs,g,x,h1,h2=>by
    show (fI kd e1 k gs xs)[k]?=_
    exact pn (by simpa using h1) (by simpa using h2)
theorem tF {α:Type} {kd:Kd α} {e1:TypeId}:∀ {k:Nat} {gs:List Value} {xs:List (List α)} {g:Value} {x:List α},k < gs.length→k < xs.length→(fI kd e1 k gs xs).set k (bb kd e1 g x)=fI kd e1 (k+1) (gs.set k g) (xs.set k x)
  | _,[],_,_,_,h,_=>by simp at h
  | _,_ :: _,[],_,_,_,h=>by simp at h
  | 0,g0 :: gs,x0 :: xs,g,x,_,_=>rfl
  | k+1,g0 :: gs,x0 :: xs,g,x,h1,h2=>by
    show bb kd e1 g0 x0 :: (fI kd e1 k gs xs).set k (bb kd e1 g x)=bb kd e1 g0 x0 :: fI kd e1 (k+1) (gs.set k g) (xs.set k x)
    rw [tF (by simpa using h1) (by simpa using h2)]
theorem ri {α:Type} {kd:Kd α} {e1:TypeId}:∀ {k:Nat} {gs:List Value} {xs:List (List α)},gs.length=xs.length→(fI kd e1 k gs xs).length=xs.length
  | 0,[],[],_=>rfl
  | k+1,[],[],_=>rfl
  | _,[],_ :: _,h=>by simp at h
  | _,_ :: _,[],h=>by simp at h
  | 0,_ :: gs,_ :: xs,h=>by show (fI kd e1 0 gs xs).length+1=xs.length+1;rw [ri (by simpa using h)]
  | k+1,_ :: gs,_ :: xs,h=>by show (fI kd e1 k gs xs).length+1=xs.length+1;rw [ri (by simpa using h)]
theorem tE {α:Type} {kd:Kd α} {e1:TypeId}:∀ {k:Nat} {gs:List Value} {xs:List (List α)},gs.length=xs.length→xs.length=k→fI kd e1 k gs xs=bX (cu kd e1) gs xs
  | 0,[],[],_,_=>rfl
  | 0,[],_ :: _,h,_=>by simp at h
  | 0,_ :: _,[],h,_=>by simp at h
  | 0,_ :: _,_ :: _,_,h=>by simp at h
  | k+1,[],xs,h,h2=>by simp at h;omega
  | k+1,g :: gs,[],h,h2=>by simp at h
  | k+1,g :: gs,x :: xs,h,h2=>by
    show bb kd e1 g x :: fI kd e1 k gs xs=bb kd e1 g x :: bX (cu kd e1) gs xs
    rw [tE (by simpa using h) (by simpa using h2)]
section
variable {P:Program} {n:Nat} {Q:b7} {E:Env} {H F:List aC} {ops:pp} {i:Nat}
/-- Frozen rows of a row of headers. -/
theorem uy {α:Type} {kd:Kd α} {e1:TypeId} {s:St}:∀ {xs:List (List α)} {cs:List Value} {F:List aC},bV (Kd.sl kd) s xs cs→Holds s F→cs.length=xs.length∧bV Kd.raw s cs cs∧Holds s (fI kd e1 0 cs xs++F)
  | [],cs,F,h,hs=>by
    have:cs=[]:=h
    subst this;exact ⟨rfl,rfl,hs⟩
  | x :: xs,cs,F,⟨c,r,e,⟨g,hc,hi⟩,hr⟩,hs=>by
    have hc':c=[g]:=hc
    subst hc';subst e
    obtain ⟨h1,h2,h3⟩:=uy (e1:=e1) hr hs
    refine ⟨(congrArg (·+1) h1:r.length+1=xs.length+1),⟨[g],r,rfl,⟨(),rfl,fun a ha=>?_⟩,h2⟩,?_⟩
    · rw [List.mem_singleton.1 ha]
      exact (Kd.sl kd).one s x g hi g (List.mem_singleton.2 rfl)
    · show Holds s (nt kd g x :: (fI kd e1 0 r xs++F))
      exact h3.consPr rfl (hi _ (List.mem_singleton.2 rfl))
theorem Dw {α:Type} {kd:Kd α} {e1 e:TypeId} {v:Value} {xs:List (List α)} {s:St} (j:Nat) (hp:pick H j=some (bb (Kd.sl kd) e v xs)) (hs:Holds s H):∃ gs,Holds s (lI kd e1 e v gs xs 0 xs.length :: bo H j):=by
  have h1:=Holds.out hs hp
  obtain ⟨A,c,rfl,q1,q2,q3,q4⟩:=h1.q _ (List.mem_cons_self ..)
  by_cases hc:0 < c
  · obtain ⟨b,cur,cs,rfl,hh,hsz,htk,hrow⟩:=q4 hc
    obtain ⟨l1,l2,l3⟩:=uy (e1:=e1) hrow h1.tail
    refine ⟨cs,Holds.big.2 ?_⟩
    have hown:(bb Kd.raw e (.slice (some ⟨b,0,none⟩) xs.length c) cs).q s:=by
      refine ⟨_,c,by rw [l1],by rw [l1];exact q1,q2,by rw [l1];exact q3,fun _=>⟨b,cur,cs,rfl,hh,hsz,by rw [l1];exact htk,l2⟩⟩
    have h5:Holds s (bb Kd.raw e (.slice (some ⟨b,0,none⟩) xs.length c) cs :: bo H j):=by
      refine ⟨fun y hy=>?_,fun k hk=>h1.own k hk,h1.nd⟩
      rcases List.mem_cons.1 hy with rfl | hy
      · exact hown
      · exact h1.q y (List.mem_cons_of_mem _ hy)
    obtain ⟨_,_,h6⟩:=uy (e1:=e1) hrow h5
    show Holds s (fact _ :: bb Kd.raw e _ cs :: (fI kd e1 0 cs xs++bo H j))
    exact (h6.perm List.perm_middle).consPr rfl ⟨l1,rfl⟩
  · have hx:xs=[]:=List.eq_nil_of_length_eq_zero (by omega)
    subst hx
    refine ⟨[],Holds.big.2 ?_⟩
    show Holds s (fact _ :: bb Kd.raw e _ [] :: ([]++bo H j))
    refine Holds.consPr ?_ rfl ⟨rfl,rfl⟩
    refine ⟨fun y hy=>?_,fun k hk=>h1.own k hk,h1.nd⟩
    rcases List.mem_cons.1 hy with rfl | hy
    · exact ⟨A,c,rfl,q1,q2,q3,fun h=>absurd h hc⟩
    · exact h1.q y (List.mem_cons_of_mem _ hy)
theorem WH.half {α:Type} {kd:Kd α} (e1:TypeId) {e:TypeId} {v:Value} {xs:List (List α)} {cd:Code} (j:Nat) (hp:pick H j=some (bb (Kd.sl kd) e v xs)) (k:∀ gs,WH P n cd Q E (lI kd e1 e v gs xs 0 xs.length :: bo H j)):WH P n cd Q E H:=fun s ok hs=>by
  obtain ⟨gs,h⟩:=Dw (e1:=e1) j hp hs
  exact k gs s ok h
theorem un {α:Type} {kd:Kd α} {e1 e:TypeId} {v:Value} {gs:List Value} {xs:List (List α)} {k L:Nat} {s:St} (h:(lI kd e1 e v gs xs k L).q s):gs.length=xs.length∧xs.length=L:=h (fact (gs.length=xs.length∧xs.length=L)) (List.mem_cons_self ..)
theorem yT {α:Type} {kd:Kd α} {e1 e:TypeId} {v:Value} {gs:List Value} {xs:List (List α)} {k L:Nat} (h:rr H (lI kd e1 e v gs xs k L)):rr H (bb Kd.raw e v gs):=fun s hs=>h s hs (bb Kd.raw e v gs) (List.mem_cons_of_mem _ (List.mem_cons_self ..))
theorem vh {α:Type} {kd:Kd α} {e1 e:TypeId} {v:Value} {gs:List Value} {xs:List (List α)} {k L:Nat} (h:rr H (lI kd e1 e v gs xs k L)):ra H v xs.length:=fun s hs=>by
  have:=uv (yT h) s hs
  rw [(un (h s hs)).1] at this;exact this
/-- The next row is loaded: it is frozen still. -/
theorem Ee {α:Type} {kd:Kd α} {e1 e t:TypeId} {by_:Nat} {z v:Value} {k L:Nat} {gs:List Value} {xs:List (List α)} {x:List α} (j:Nat) (hp:pick H j=some (lI kd e1 e v gs xs k L)) (hm:xs[k]?=some x) (h:dec n ops E i xI=some (t,cw v (k*1)))
    (ht:cM P t=some (false,1,by_,z)) (kk:∀ g,WI P n ops (i+1) Q (E.putO (dM ops i) g) (nt kd g x :: H)):WI P n ops i Q E H:=fun s ok hs=>by
  have hq:=hs.q _ (bp hp)
  have hl:=un hq
  have hlt:k < gs.length:=by rw [hl.1];exact (List.getElem?_eq_some_iff.1 hm).1
  have hg:gs[k]?=some gs[k]:=List.getElem?_eq_getElem hlt
  have hr:(nt kd gs[k] x).q s:=hq _ (List.mem_cons_of_mem _ (List.mem_cons_of_mem _ (List.mem_of_getElem? (pn hg hm))))
  refine mj (kd:=Kd.raw) (e:=e) (off:=0) (sz:=1) (agg:=false) (x0:=gs[k]) (yT (bi j hp)) hg (by rw [Addr.add_zero'];exact h) ht rfl rfl (fun _=>?_) s ok hs
  exact WI.ent (fun s' ok hs'=>⟨s',rfl,ok,hs'.tail.consPr rfl (hs'.tail.q _ (bp hp) _ (List.mem_cons_of_mem _ (List.mem_cons_of_mem _ (List.mem_of_getElem? (pn hg hm)))))⟩) (kk gs[k])
/-- An own row takes its place. -/
theorem Ek {α:Type} {kd:Kd α} {e1 e t:TypeId} {by_:Nat} {z v w:Value} {k L:Nat} {gs:List Value} {xs ys:List (List α)} {x:List α} (j1 j2:Nat) (hp1:pick H j1=some (bb kd e1 w x)) (hp2:pick (bo H j1) j2=some (lI kd e1 e v gs xs k L)) (hm:k < xs.length) (hy:ys=xs.set k x) (hv:lG H w [w]) (h1:∀ s,Holds s H→w.oneCell'=true)
    (h:dec n ops E i CE=some (t,cw v (k*1),w)) (ht:cM P t=some (false,1,by_,z)) (g:WI P n ops (i+1) Q (E.putO (dM ops i) undef) (lI kd e1 e v (gs.set k w) ys (k+1) L :: bo (bo H j1) j2)):WI P n ops i Q E H:=by
  subst hy
  refine fun s ok hs=>?_
  have hl:gs.length=xs.length∧xs.length=L:=un ((bi (H:=bo H j1) j2 hp2) s (Holds.out hs hp1).tail)
  have hlt:k < gs.length:=by omega
  have hE:gI H (fact (w.oneCell'=true) :: fact (w.cells=[w].toArray) :: fact (gs.length=xs.length∧xs.length=L) :: bb Kd.raw e v gs :: ((fI kd e1 k gs xs).set k pE++(bb kd e1 w x :: bo (bo H j1) j2))):=fun s ok hs=>by
    refine ⟨s,rfl,ok,?_⟩
    have q1:=(Holds.out hs hp1).perm (List.Perm.cons _ (gN _ _ _ hp2))
    have q2:Holds s (lI kd e1 e v gs xs k L :: bb kd e1 w x :: bo (bo H j1) j2):=q1.perm (List.Perm.swap ..)
    have q3:=tU (m:=k+2) (a:=nt kd gs[k] xs[k]) (by show (fI kd e1 k gs xs)[k]?=_;exact pn (List.getElem?_eq_getElem hlt) (List.getElem?_eq_getElem hm)) q2
    have q4:=Holds.big.1 q3.tail
    exact (q4.consPr rfl (hv s hs)).consPr rfl (h1 s hs)
  have key:WI P n ops i Q E (fact (w.oneCell'=true) :: fact (w.cells=[w].toArray) :: fact (gs.length=xs.length∧xs.length=L) :: bb Kd.raw e v gs :: ((fI kd e1 k gs xs).set k pE++(bb kd e1 w x :: bo (bo H j1) j2))):=by
    refine fo (kd:=Kd.raw) (m:=k) (x0:=w) 3 () rfl hlt rfl h ht (fun s hs=>hs.q (fact (w.cells=[w].toArray)) (List.mem_cons_of_mem _ (List.mem_cons_self ..))) (FX fun s hs=>hs.q (fact (w.oneCell'=true)) (List.mem_cons_self ..)) ?_
    refine WI.ent (fun s ok hs=>⟨s,rfl,ok,?_⟩) g
    have q2:Holds s (bb Kd.raw e v (gs.set k w) :: fact (gs.length=xs.length∧xs.length=L) :: ((fI kd e1 k gs xs).set k pE++(bb kd e1 w x :: bo (bo H j1) j2))) :=
      ((hs.perm (List.Perm.swap ..)).tail.perm (List.Perm.swap ..)).tail
    have q3:Holds s (fact ((gs.set k w).length=(xs.set k x).length∧(xs.set k x).length=L) :: bb Kd.raw e v (gs.set k w) :: ((fI kd e1 k gs xs).set k pE++(bb kd e1 w x :: bo (bo H j1) j2))) :=
      ((q2.perm (List.Perm.swap ..)).tail).consPr rfl ⟨by rw [List.length_set,List.length_set];exact hl.1,by rw [List.length_set];exact hl.2⟩
    have q4:Holds s (pR (fact ((gs.set k w).length=(xs.set k x).length∧(xs.set k x).length=L) :: bb Kd.raw e v (gs.set k w) :: (fI kd e1 k gs xs).set k pE) :: bb kd e1 w x :: bo (bo H j1) j2):=Holds.big.2 q3
    have q5:=vS (m:=k+2) (a:=bb kd e1 w x) (by
      show ((fI kd e1 k gs xs).set k pE)[k]?=some pE
      rw [List.getElem?_set_self (by rw [ri hl.1];exact hm)]) (q4.perm (List.Perm.swap ..))
    have e2:lI kd e1 e v (gs.set k w) (xs.set k x) (k+1) L=pR ((fact ((gs.set k w).length=(xs.set k x).length∧(xs.set k x).length=L) :: bb Kd.raw e v (gs.set k w) :: (fI kd e1 k gs xs).set k pE).set (k+2) (bb kd e1 w x)):=by
      unfold lI
      rw [← tF hlt hm,List.set_cons_succ,List.set_cons_succ,List.set_set]
    rw [e2];exact q5
  exact WI.ent hE key s ok hs
/-- All rows are ours. -/
theorem yS {α:Type} {kd:Kd α} {e1 e:TypeId} {v:Value} {gs:List Value} {xs:List (List α)} {k:Nat} (j:Nat) (hp:pick H j=some (lI kd e1 e v gs xs k k)):gI H (bK (cu kd e1) e v gs xs :: bo H j):=fun s ok hs=>by
  have h1:=Holds.out hs hp
  have hl:=un (h1.q _ (List.mem_cons_self ..))
  refine ⟨s,rfl,ok,?_⟩
  have h2:=Holds.big.1 h1
  refine Holds.big.2 ?_
  have e2:gs.map (cu kd e1).hd=gs:=by show gs.map id=gs;rw [List.map_id]
  show Holds s (fact (gs.length=xs.length) :: bb Kd.raw e v (gs.map (cu kd e1).hd) :: (bX (cu kd e1) gs xs++bo H j))
  rw [e2,← tE (k:=k) hl.1 hl.2]
  exact (show Holds s (fact (gs.length=xs.length∧xs.length=k) :: bb Kd.raw e v gs :: (fI kd e1 k gs xs++bo H j)) from h2).tail.consPr rfl hl.1
/-- A tree whose headers are being changed. -/
def rb {α:Type} (R:RK α) (e:TypeId) (v:Value) (hs:List Value) (gs:List Value) (xs:List α):aC:=pR (fact (gs.length=xs.length∧hs.length=xs.length) :: bb Kd.raw e v hs :: bX R gs xs)
theorem B2 {α:Type} {R:RK α} {e:TypeId} {v:Value} {hs gs:List Value} {xs:List α} {s:St} (h:(rb R e v hs gs xs).q s):gs.length=xs.length∧hs.length=xs.length:=h (fact (gs.length=xs.length∧hs.length=xs.length)) (List.mem_cons_self ..)
theorem zU {α:Type} {R:RK α} {e:TypeId} {v:Value} {gs:List Value} {xs:List α} (j:Nat) (hp:pick H j=some (bK R e v gs xs)):gI H (rb R e v (gs.map R.hd) gs xs :: bo H j):=fun s ok hs=>by
  have h2:=Holds.big.1 (Holds.out hs hp)
  have hl:gs.length=xs.length:=h2.q (fact (gs.length=xs.length)) (List.mem_cons_self ..)
  refine ⟨s,rfl,ok,Holds.big.2 ?_⟩
  exact (show Holds s (fact (gs.length=xs.length) :: bb Kd.raw e v (gs.map R.hd) :: (bX R gs xs++bo H j)) from h2).tail.consPr rfl ⟨hl,by rw [List.length_map];exact hl⟩
theorem CX {α:Type} {R:RK α} {e t:TypeId} {by_:Nat} {z v w:Value} {m:Nat} {hs gs:List Value} {xs:List α} {x:α} (j:Nat) (hp:pick H j=some (rb R e v hs gs xs)) (hm:xs[m]?=some x) (hv:lG H w [w]) (h1:∀ s,Holds s H→w.oneCell'=true)
    (h:dec n ops E i CE=some (t,cw v (m*1),w)) (ht:cM P t=some (false,1,by_,z)) (g:WI P n ops (i+1) Q (E.putO (dM ops i) undef) (rb R e v (hs.set m w) gs xs :: bo H j)):WI P n ops i Q E H:=fun s ok hs0=>by
  have hl:=B2 (hs0.q _ (bp hp))
  have hlt:m < hs.length:=by rw [hl.2];exact (List.getElem?_eq_some_iff.1 hm).1
  refine WI.ent (H':=fact (w.oneCell'=true) :: fact (w.cells=[w].toArray) :: fact (gs.length=xs.length∧hs.length=xs.length) :: bb Kd.raw e v hs :: (bX R gs xs++bo H j)) (fun s ok hs=>?_) ?_ s ok hs0
  · exact ⟨s,rfl,ok,((Holds.big.1 (Holds.out hs hp)).consPr rfl (hv s hs)).consPr rfl (h1 s hs)⟩
  · refine fo (kd:=Kd.raw) (m:=m) (x0:=w) 3 () rfl hlt rfl h ht (fun s hs=>hs.q (fact (w.cells=[w].toArray)) (List.mem_cons_of_mem _ (List.mem_cons_self ..))) (FX fun s hs=>hs.q (fact (w.oneCell'=true)) (List.mem_cons_self ..)) ?_
    refine WI.ent (fun s ok hs'=>⟨s,rfl,ok,Holds.big.2 ?_⟩) g
    have q2:Holds s (bb Kd.raw e v (hs.set m w) :: fact (gs.length=xs.length∧hs.length=xs.length) :: (bX R gs xs++bo H j)) :=
      ((hs'.perm (List.Perm.swap ..)).tail.perm (List.Perm.swap ..)).tail
    exact ((q2.perm (List.Perm.swap ..)).tail).consPr rfl ⟨hl.1,by rw [List.length_set];exact hl.2⟩
theorem xY {L:List aC} {a b:Nat} {x y:aC} (ha:L[a]?=some x) (hb:L[b]?=some y):((L.set a y).set b x).Perm L:=by
  by_cases hab:a=b
  · subst hab
    rw [ha] at hb;cases hb
    rw [List.set_set]
    obtain ⟨h1,rfl⟩:=List.getElem?_eq_some_iff.1 ha
    rw [List.set_getElem_self]
  · have p1:(y :: L).Perm (x :: L.set a y):=set_perm ha
    have hb':(L.set a y)[b]?=some y:=by rw [List.getElem?_set_ne hab];exact hb
    have p2:(x :: L.set a y).Perm (y :: (L.set a y).set b x):=set_perm hb'
    exact (List.Perm.cons_inv (p1.trans p2)).symm
/-- Two rows have changed places. -/
theorem wi {α:Type} {R:RK α} {e:TypeId} {v:Value} {gs:List Value} {xs ys:List α} {a b:Nat} {ga gb:Value} {xa xb:α} (j:Nat) (hp:pick H j=some (rb R e v (((gs.map R.hd).set a (R.hd gb)).set b (R.hd ga)) gs xs)) (hga:gs[a]?=some ga) (hgb:gs[b]?=some gb) (hxa:xs[a]?=some xa) (hxb:xs[b]?=some xb) (hy:ys=(xs.set a xb).set b xa) :
    gI H (bK R e v ((gs.set a gb).set b ga) ys :: bo H j):=fun s ok hs=>by
  subst hy
  have h2:=Holds.big.1 (Holds.out hs hp)
  have hl:gs.length=xs.length:=(h2.q (fact _) (List.mem_cons_self ..):_∧_).1
  refine ⟨s,rfl,ok,Holds.big.2 ?_⟩
  have la:a < gs.length:=(List.getElem?_eq_some_iff.1 hga).1
  have lb:b < gs.length:=(List.getElem?_eq_some_iff.1 hgb).1
  have e1:((gs.set a gb).set b ga).map R.hd=((gs.map R.hd).set a (R.hd gb)).set b (R.hd ga):=by rw [List.map_set,List.map_set]
  have e2:bX R ((gs.set a gb).set b ga) ((xs.set a xb).set b xa)=((bX R gs xs).set a (R.A gb xb)).set b (R.A ga xa):=by
    rw [nk (by rw [List.length_set];exact lb) (by rw [List.length_set];omega),nk la (by omega)]
  have h3:Holds s (bb Kd.raw e v (((gs.map R.hd).set a (R.hd gb)).set b (R.hd ga)) :: (bX R gs xs++bo H j)):=h2.tail
  show Holds s (fact _ :: bb Kd.raw e v _ :: (bX R _ _++bo H j))
  rw [e1,e2]
  refine Holds.consPr ?_ rfl (by simp only [List.length_set];exact hl)
  exact h3.perm (List.Perm.cons _ ((xY (lm hga hxa) (lm hgb hxb)).symm.append_right _))
end
end Gw
