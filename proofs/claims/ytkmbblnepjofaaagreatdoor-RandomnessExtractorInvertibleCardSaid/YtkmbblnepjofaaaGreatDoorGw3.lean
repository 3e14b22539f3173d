/- Own words: operations that make memory, told by headers as values; calls; numbers. -/
import Derived.Test.YtkmbblnepjofaaaGreatDoorGw2
set_option linter.unusedVariables false
namespace Gw
open Go Gv
section
variable {P:Program} {n:Nat} {Q:b7} {E:Env} {H F:List aC} {ops:pp} {i:Nat}

theorem pa {s:St} (ok:s.Ok) (hs:Holds s H) (ob:Obj) {y:aC} (hb:y.bs=[s.w.heap.size] ∨ y.bs=[]) (hq:y.q ⟨s.w.alloc ob,s.fz⟩):St.Ok ⟨s.w.alloc ob,s.fz⟩∧Holds ⟨s.w.alloc ob,s.fz⟩ (y :: H) :=
  Holds.new ok hs (w':=s.w.alloc ob) (by show _ < (s.w.heap.push ob).size;simp) rfl rfl rfl (fun k hk=>Go.RowKit.Below.heap_alloc s.w ob k hk) hb hq
theorem uR {s:St} (ok:s.Ok) (ob:Obj):Le s ⟨s.w.alloc ob,s.fz⟩:=⟨rfl,rfl,rfl,by show _≤(s.w.heap.push ob).size;simp,fun k hk=>⟨hk,Go.RowKit.Below.heap_alloc s.w _ k (ok k hk)⟩⟩

theorem qu {a:Addr} {n c:Nat} (h:0 < c):nQ (.slice (some a) n c)=[a.block]:=by cases c with | zero=>cases h | succ c=>rfl
/- ---- boxes -/
def EJ (E:Env) (o:Oper):Option (TypeId × Value):=match o.op with | .box t x=>some (t,E.ev x) | _=>none
theorem cA {t:TypeId} {v:Value} {cs:List Value} (hv:lG H v cs) (h:dec n ops E i EJ=some (t,v)) (g:∀ p:Value,WI P n ops (i+1) Q (E.putO (dM ops i) p) (a7 p t cs :: H)):WI P n ops i Q E H :=
  pO (X:=Value) (C:=fun _=>True) (V:=id) h (fun o ho s ok hs=>by
    unfold EJ at ho
    split at ho
    · rename_i t' x hop
      cases ho
      obtain ⟨ok',hs'⟩:=pa ok hs (.cells (E.ev x).cells t) (y:=a7 (.pointer (some ⟨s.w.heap.size,0,none⟩)) t cs) (.inl rfl)
        ⟨_,rfl,by show (s.w.alloc _).heap[s.w.heap.size]?=_;rw [heap_alloc_new,hv s hs]⟩
      refine ⟨.pointer (some ⟨s.w.heap.size,0,none⟩),⟨s.w.alloc (.cells (E.ev x).cells t),s.fz⟩,?_,trivial,ok',hs'⟩
      unfold execOp
      rw [hop]
      simp [Instr.box,newVar,newRow]
    · cases ho) (fun p _=>g p)
def GX (E:Env) (o:Oper):Option TypeId:=match o.op with | .alloc t=>some t | _=>none
theorem iH {t:TypeId} {agg:Bool} {sz by_:Nat} {z:Value} (h:dec n ops E i GX=some t) (ht:cM P t=some (agg,sz,by_,z)) (g:∀ p:Value,WI P n ops (i+1) Q (E.putO (dM ops i) p) (a7 p t z.cells.toList :: H)):WI P n ops i Q E H :=
  pO (X:=Value) (C:=fun _=>True) (V:=id) h (fun o ho s ok hs=>by
    obtain ⟨ii,d,hi,hd,_,_,_,hz⟩:=fY ht
    unfold GX at ho
    split at ho
    · rename_i t' hop
      cases ho
      obtain ⟨ok',hs'⟩:=pa ok hs (.cells z.cells t) (y:=a7 (.pointer (some ⟨s.w.heap.size,0,none⟩)) t z.cells.toList) (.inl rfl)
        ⟨_,rfl,by show (s.w.alloc _).heap[s.w.heap.size]?=_;rw [heap_alloc_new,Array.toArray_toList]⟩
      refine ⟨.pointer (some ⟨s.w.heap.size,0,none⟩),⟨s.w.alloc (.cells z.cells t),s.fz⟩,?_,trivial,ok',hs'⟩
      unfold execOp
      rw [hop]
      simp [Instr.alloc,zeroValue,typeInfo,hi,hz,newVar,newRow]
    · cases ho) (fun p _=>g p)
/-- A pointer is spelt by its block. -/
theorem bh {p:Value} {e:TypeId} {vs:List Value} (j:Nat) (hp:pick H j=some (a7 p e vs)) (g:∀ b:Nat,p=.pointer (some ⟨b,0,none⟩)→WI P n ops i Q E H):WI P n ops i Q E H:=fun s ok hs=>by
  obtain ⟨b,e,_⟩:=hs.q _ (bp hp)
  exact g b e s ok hs
theorem E8 {x:Exit} {p:Value} {e:TypeId} {vs:List Value} (j:Nat) (hp:pick H j=some (a7 p e vs)) (g:∀ b:Nat,p=.pointer (some ⟨b,0,none⟩)→QH Q x E H):QH Q x E H:=fun s ok hs=>by
  obtain ⟨b,e,_⟩:=hs.q _ (bp hp)
  exact g b e s ok hs

/- ---- struct values -/
def GY (E:Env) (o:Oper):Option (TypeId × List (Nat × Value)):=match o.op with | .build t ps=>some (t,ps.toList.map (fun p=>(p.1,E.ev p.2))) | _=>none
/-- parts with the same cells -/
def qs (H:List aC) (ps ps':List (Nat × Value)):Prop:=∀ s,Holds s H→ps.map (fun p=>(p.1,p.2.cells))=ps'.map (fun p=>(p.1,p.2.cells))
theorem f4:qs H [] []:=fun _ _=>rfl
theorem gr {i:Nat} {v:Value} {ps ps':List (Nat × Value)} (t:qs H ps ps'):qs H ((i,v) :: ps) ((i,v) :: ps'):=fun s hs=>by rw [List.map_cons,List.map_cons,t s hs]
theorem mR {i:Nat} {v:Value} {N:Nat} {ps ps':List (Nat × Value)} (h:ra H v N) (t:qs H ps ps'):qs H ((i,v) :: ps) ((i,.agg #[v]) :: ps'):=fun s hs=>by
  rw [List.map_cons,List.map_cons,t s hs]
  obtain ⟨A,c,rfl,_⟩:=h s hs
  rfl
theorem q7 (place:Nat→Option (Nat × Nat)):∀ (ps ps':List (Nat × Value)) (cs:Array Value),ps.map (fun p=>(p.1,p.2.cells))=ps'.map (fun p=>(p.1,p.2.cells))→Instr.fill place cs ps=Instr.fill place cs ps'
  | [],[],_,_=>rfl
  | [],_ :: _,_,h=>by simp at h
  | _ :: _,[],_,h=>by simp at h
  | (i,v) :: r,(i',v') :: r',cs,h=>by
    simp only [List.map_cons,List.cons.injEq,Prod.mk.injEq] at h
    obtain ⟨⟨rfl,hv⟩,hr⟩:=h
    unfold Instr.fill
    rw [hv]
    cases place i with
    | none=>rfl
    | some q =>
      obtain ⟨off,size⟩:=q
      simp only
      split
      · rfl
      · exact q7 place r r' _ hr
theorem vT {t:TypeId} {ps ps':List (Nat × Value)} (h:ps.map (fun p=>(p.1,p.2.cells))=ps'.map (fun p=>(p.1,p.2.cells))):Instr.build t ps.toArray=Instr.build t ps'.toArray:=by
  unfold Instr.build
  simp only [fun place cs=>q7 place ps ps' cs h]
theorem oY {t:TypeId} {ps0 ps:List (Nat × Value)} {v:Value} (hps:qs H ps0 ps) (h:dec n ops E i GY=some (t,ps0)) (hr:∀ w,(Instr.build t ps.toArray).run P w=.ok v w) (g:WI P n ops (i+1) Q (E.putO (dM ops i) v) H):WI P n ops i Q E H :=
  o8 h (fun o ho s _ hs=>by
    unfold GY at ho
    split at ho
    · rename_i t' parts hop
      cases ho
      unfold execOp
      rw [hop]
      have:(parts.map fun p=>(p.1,E.ev p.2))=(parts.toList.map fun p=>(p.1,E.ev p.2)).toArray:=by apply Array.ext';simp
      simp only [this]
      rw [vT (hps s hs)]
      exact c8 (hr s.w)
    · cases ho) g

/- ---- literals of slices -/
def y3 (sz len:Nat) (z:Value) (parts:List (Nat × Value)):Option (Array Value) :=
  Instr.fill (fun i=>some (i*sz,sz)) ((Array.range (len*sz)).map (z.cells[· % z.cells.size]!)) parts
def G2 (E:Env) (o:Oper):Option (TypeId × Nat × List (Nat × Value)):=match o.op with | .buildSlice t len ps=>some (t,len,ps.toList.map (fun p=>(p.1,E.ev p.2))) | _=>none
theorem dH {α:Type} {kd:Kd α} {t e:TypeId} {agg:Bool} {by_:Nat} {z:Value} {len:Nat} {ps0 ps:List (Nat × Value)} (xs:List α) (cs:List Value) (hrow:∀ s,Holds s H→bV kd s xs cs) (hps:qs H ps0 ps) (h:dec n ops E i G2=some (t,len,ps0)) (ht:oj P t=some e) (he:cM P e=some (agg,kd.size,by_,z))
    (hc:y3 kd.size len z ps=some cs.toArray) (hlen:Nat.beq xs.length len=true) (hsm:(Nat.ble (len*kd.size) 16777216 && Nat.ble len (len*kd.size))=true)
    (g:∀ v:Value,WI P n ops (i+1) Q (E.putO (dM ops i) v) (bb kd e v xs :: H)):WI P n ops i Q E H :=
  pO (X:=Value) (C:=fun _=>True) (V:=id) h (fun o ho s ok hs=>by
    obtain ⟨ii,d,hi,hd,_,hsz,_,hz⟩:=fY he
    have hu:=iL ht
    have hrowS:=hrow s hs
    have hlen':=Nat.eq_of_beq_eq_true hlen
    simp only [Bool.and_eq_true] at hsm
    have hsm1:=Nat.le_of_ble_eq_true hsm.1
    have hsm2:=Nat.le_of_ble_eq_true hsm.2
    have hle:=uR ok (.cells cs.toArray e)
    obtain ⟨ok',hs'⟩:=pa ok hs (.cells cs.toArray e) (y:=bb kd e (.slice (some ⟨s.w.heap.size,0,none⟩) len len) xs) (by
        show nQ (.slice (some ⟨s.w.heap.size,0,none⟩) len len)=_ ∨ nQ (.slice (some ⟨s.w.heap.size,0,none⟩) len len)=_
        match len with | 0=>exact .inr rfl | _+1=>exact .inl rfl)
      ⟨_,len,by rw [hlen'],by omega,by simp only [maxLen];omega,by omega,fun _=>⟨s.w.heap.size,cs.toArray,cs,rfl,heap_alloc_new _ _,by simp [hrowS.length,hlen'],by simp [← hrowS.length],hrowS.mono hle⟩⟩
    refine ⟨_,⟨s.w.alloc (.cells cs.toArray e),s.fz⟩,?_,trivial,ok',hs'⟩
    unfold G2 at ho
    split at ho
    · rename_i t' len' parts hop
      cases ho
      have hc:y3 kd.size len z (parts.toList.map fun p=>(p.1,E.ev p.2))=some cs.toArray:=by unfold y3 at hc ⊢;rw [q7 _ _ _ _ (hps s hs)];exact hc
      have h16:¬ (16777216 < len*kd.size):=by omega
      have hp:(parts.map fun p=>(p.1,E.ev p.2)).toList=parts.toList.map fun p=>(p.1,E.ev p.2):=by simp
      unfold execOp
      rw [hop]
      by_cases h0:len*kd.size=0
      · have hl0:len=0:=by omega
        subst hl0
        unfold y3 at hc
        simp only [Nat.zero_mul] at hc
        have er:∀ f:Nat→Value,Array.map f (Array.range 0)=#[]:=fun f=>by simp [Array.range_zero']
        rw [er] at hc
        simp [Instr.buildSlice,run_underlying hu,Go.sizeOf,typeInfo,hi,hsz,hc,er,newRow]
      · unfold y3 at hc
        simp [Instr.buildSlice,run_underlying hu,Go.sizeOf,zeroValue,typeInfo,hi,hsz,hz,h16,h0,hc,newRow]
    · cases ho) (fun p _=>g p)

/- ---- append -/
/-- where the new elements come from: m elements at B -/
def Cw (s:St) (B:Option Addr) (m sz:Nat) (news:List Value):Prop:=news.length=m*sz∧(m=0 ∨ ∃ ad,B=some ad∧∀ j u,news[j]?=some u→s.w.cell? (ad.add j)=some u)
/-- The slice u reads as ys. -/
def vj {α:Type} (H:List aC) (kd:Kd α) (u:Value) (ys:List α):Prop:=∀ s,Holds s H→∃ B c,u=.slice B ys.length c∧∃ news,Cw s B ys.length kd.size news∧bV kd s ys news
theorem pW {α:Type} {kd:Kd α} {v:Value} {ys:List α} (j:Nat) (hp:pick H j=some (nt kd v ys)):vj H kd v ys:=fun s hs=>by
  obtain ⟨A,c,hv,_,_,_,h⟩:=hs.q _ (bp hp)
  refine ⟨A,c,hv,?_⟩
  rcases h with rfl | ⟨b,off,arr,e,f,cs,rfl,_,hh,hr,hc⟩
  · exact ⟨[],⟨by simp,.inl rfl⟩,rfl⟩
  · refine ⟨cs,⟨hr.length,.inr ⟨_,rfl,fun j u hu=>?_⟩⟩,hr⟩
    rw [kL];simp [World.cell?,hh,hc j u hu]
theorem bd {α:Type} {kd:Kd α} {e:TypeId} {v:Value} {ys:List α} (j:Nat) (hp:pick H j=some (bb kd e v ys)):vj H kd v ys:=fun s hs=>by
  obtain ⟨A,c,hv,h1,_,_,h⟩:=hs.q _ (bp hp)
  refine ⟨A,c,hv,?_⟩
  by_cases hc:0 < c
  · obtain ⟨g,cur,cs,rfl,hh,_,htk,hr⟩:=h hc
    refine ⟨cs,⟨hr.length,.inr ⟨_,rfl,fun j u hu=>?_⟩⟩,hr⟩
    rw [kL]
    rw [← htk,List.getElem?_take] at hu
    split at hu
    · simpa [World.cell?,hh] using hu
    · cases hu
  · rw [List.eq_nil_of_length_eq_zero (show ys.length=0 by omega)]
    exact ⟨[],⟨by simp,.inl rfl⟩,rfl⟩
/-- What append does, by cases: nothing new; room; a new row. -/
theorem Ch {t ty e:TypeId} {agg:Bool} {sz by_:Nat} {z:Value} (ht:oj P t=some e) (he:cM P e=some (agg,sz,by_,z)) (hzs:z.cells.size=sz) (hpos:0 < sz) {s:St} {A B:Option Addr} {n c m cB:Nat} {xs news:List Value}
    (hx:xs.length=n*sz) (hnc:n≤c) (hcm:c≤maxLen) (hA:∀ a,A=some a→∀ j u,xs[j]?=some u→s.w.cell? (a.add j)=some u) (hn:A=none→n=0∧c=0)
    (hroom:m≠0→n+m≤c→∃ g cur,A=some ⟨g,0,none⟩∧s.w.heap[g]?=some (.cells cur e (0,0))∧cur.size=c*sz∧cur.toList.take (n*sz)=xs)
    (hsrc:Cw s B m sz news) (h1:∀ u ∈ news,u.oneCell'=true) (hbytes:(n+m)*by_≤140737488355328) (h63:n+m≤140737488355328) :
    ∃ A' c' w',(Builtin.append_ #[t,t] ty #[.slice A n c,.slice B m cB]).run P s.w=.ok (.slice A' (n+m) c') w' ∧
      ((m=0∧A'=A∧c'=c∧w'=s.w) ∨
       (m≠0∧c'≤maxLen∧n+m≤c'∧∃ g cur,A'=some ⟨g,0,none⟩∧w'.heap[g]?=some (.cells cur e (0,0))∧cur.size=c'*sz∧cur.toList.take ((n+m)*sz)=xs++news∧w'.os=s.w.os∧w'.tape=s.w.tape∧w'.output=s.w.output ∧
          ((A=some ⟨g,0,none⟩∧c'=c∧w'.heap.size=s.w.heap.size∧∀ k,k≠g→w'.heap[k]?=s.w.heap[k]?) ∨ (g=s.w.heap.size∧w'.heap.size=s.w.heap.size+1∧∀ k,k < s.w.heap.size→w'.heap[k]?=s.w.heap[k]?)))):=by
  obtain ⟨i,d,hi,hd,_,hsz,hby,hz⟩:=fY he
  subst hsz;subst hby
  have hu:=iL ht
  obtain ⟨hnl,hsrc⟩:=hsrc
  have hlen:(xs++news).length=(n+m)*i.size:=by rw [List.length_append,hx,hnl,Nat.add_mul]
  by_cases hm:m=0
  · subst hm
    have hn0:news=[]:=List.eq_nil_of_length_eq_zero (by simpa using hnl)
    subst hn0
    refine ⟨A,c,s.w,?_,.inl ⟨rfl,rfl,rfl,rfl⟩⟩
    cases A <;> cases B <;> simp [Builtin.append_,run_underlying hu,Go.sizeOf,typeInfo,hi,Builtin.lenOf,Builtin.firstCells,hnc,loadCells,loadCellsFrom,storeCells]
  · obtain ⟨ad,rfl,hnews⟩:=hsrc.resolve_left hm
    have grown:∀ (old:Nat),grownCap s.w (n+m) old e≤maxLen∧n+m≤grownCap s.w (n+m) old e ∧
        (s.w.drew.alloc (.cells (xs.toArray++news.toArray++Builtin.zeroCells z.cells (grownCap s.w (n+m) old e - (n+m))) e)).heap[s.w.heap.size]?=some (.cells (xs.toArray++news.toArray++Builtin.zeroCells z.cells (grownCap s.w (n+m) old e - (n+m))) e (0,0)) ∧
        (xs.toArray++news.toArray++Builtin.zeroCells z.cells (grownCap s.w (n+m) old e - (n+m))).size=grownCap s.w (n+m) old e*i.size ∧
        (xs.toArray++news.toArray++Builtin.zeroCells z.cells (grownCap s.w (n+m) old e - (n+m))).toList.take ((n+m)*i.size)=xs++news:=fun old=>by
      have hge:=grownCap_ge s.w (n+m) old e
      have hcm:grownCap s.w (n+m) old e≤maxLen:=grownCap_le_maxLen s.w (n+m) old e (by simp only [maxLen];omega)
      refine ⟨hcm,hge,heap_alloc_new s.w.drew _,?_,?_⟩
      · simp only [Array.size_append,List.size_toArray,size_zeroCells,hzs,hx,hnl,← Nat.add_mul]
        congr 1;omega
      · simp only [Array.toList_append,List.append_assoc]
        rw [← List.append_assoc,← hlen]
        exact List.take_left
    by_cases hr:n+m≤c
    · obtain ⟨g,cur,rfl,hg,hcs,htk⟩:=hroom hm hr
      have hfit:n*i.size+news.length≤cur.size:=by rw [hnl,hcs,← Nat.add_mul];exact Nat.mul_le_mul_right _ hr
      have hrun:=run_append_room (P:=P) s.w t ty e i hu hi g n c cur hg ad m cB news hnl hnews h1 hr hfit
      refine ⟨_,_,_,hrun,.inr ⟨hm,hcm,hr,g,_,rfl,setRow_heap s.w g cur _ e _ hg,?_,?_,rfl,rfl,rfl,.inl ⟨rfl,rfl,setRow_size ..,fun k hk=>setRow_other s.w g k _ (fun e=>hk e)⟩⟩⟩
      · simp only [List.size_toArray,List.length_append,List.length_take,List.length_drop,Array.length_toList];omega
      · rw [htk,← hlen];exact List.take_left
    · obtain ⟨q1,q2,q3,q4,q5⟩:=grown (if A.isNone then 0 else c)
      cases A with
      | none =>
        obtain ⟨rfl,rfl⟩:=hn rfl
        have hx:xs=[]:=List.eq_nil_of_length_eq_zero (by simpa using hx)
        subst hx
        have hrun:=run_append_nil (P:=P) s.w t ty e i z hu hi hz ad m cB news hnl hnews (by omega) (by omega) (by simp only [Nat.zero_add] at hbytes;omega)
        simp only [Nat.zero_add,List.nil_append,Array.empty_append,Option.isNone_none,if_true] at q1 q2 q3 q4 q5 ⊢
        exact ⟨_,_,_,hrun,.inr ⟨hm,q1,q2,_,_,rfl,q3,q4,q5,rfl,rfl,rfl,.inr ⟨rfl,by show (s.w.heap.push _).size=_;simp,fun k hk=>Go.RowKit.Below.heap_alloc s.w.drew _ k hk⟩⟩⟩
      | some a =>
        simp only [Option.isNone_some] at q1 q2 q3 q4 q5
        have hrun:=run_append_grow (P:=P) s.w t ty e i z hu hi hz a n c xs hx (hA a rfl) ad m cB news hnl hnews (by omega) (by omega) (growslice_fits (by omega) hbytes)
        exact ⟨_,_,_,hrun,.inr ⟨hm,q1,q2,_,_,rfl,q3,q4,q5,rfl,rfl,rfl,.inr ⟨rfl,by show (s.w.heap.push _).size=_;simp,fun k hk=>Go.RowKit.Below.heap_alloc s.w.drew _ k hk⟩⟩⟩
def EI (E:Env) (o:Oper):Option (TypeId × TypeId × Value × Value) :=
  match o.op with
  | .call c=>match c.callee,c.args.toList,c.argTypes.toList with
    | .builtin .append,[x,y],[t,u]=>some (t,u,E.ev x,E.ev y)
    | _,_,_=>none
  | _=>none
theorem Ay {o:Oper} {t u:TypeId} {x y v:Value} {w w':World} (h:EI E o=some (t,u,x,y)) (hr:∀ ty,(Builtin.append_ #[t,u] ty #[x,y]).run P w=.ok v w'):(execOp E.ev o).run P w=.ok (.value v) w':=by
  unfold EI at h
  split at h
  · rename_i c hop
    split at h
    · rename_i x' y' t' u' hc ha hty
      simp only [Option.some.injEq,Prod.mk.injEq] at h
      obtain ⟨rfl,rfl,hx,hy⟩:=h
      obtain ⟨callee,args,argTypes⟩:=c
      simp only at hc ha hty
      have ha':args=#[x',y']:=by rw [← Array.toArray_toList (xs:=args),ha]
      have ht':argTypes=#[t',u']:=by rw [← Array.toArray_toList (xs:=argTypes),hty]
      subst ha';subst ht';subst hc
      unfold execOp
      rw [hop]
      simp [resolve,invoke,builtin,hx,hy,hr]
    · cases h
  · cases h
theorem ei {α:Type} {b:Nat} {xs ys zs:List α} (h:cY b xs ys=some zs):((xs.length+ys.length)*b≤140737488355328∧xs.length+ys.length≤140737488355328)∧xs++ys=zs:=by
  unfold cY at h
  split at h
  · rename_i hc;cases h;exact ⟨hc,rfl⟩
  · cases h
theorem cv {α:Type} {kd:Kd α} {t e:TypeId} {agg:Bool} {by_:Nat} {z v u:Value} {xs ys zs:List α} (j:Nat) (hp:pick H j=some (bb kd e v xs)) (hsrc:vj H kd u ys) (hz:cY by_ xs ys=some zs) (h:dec n ops E i EI=some (t,t,v,u))
    (ht:oj P t=some e) (he:cM P e=some (agg,kd.size,by_,z)) (hzs:(Nat.beq z.cells.size kd.size && Nat.ble 1 kd.size)=true)
    (g:∀ v':Value,WI P n ops (i+1) Q (E.putO (dM ops i) v') (bb kd e v' zs :: bo H j)):WI P n ops i Q E H :=
  pO (X:=Value) (C:=fun _=>True) (V:=id) h (fun o ho s ok hs=>by
    obtain ⟨hb,rfl⟩:=ei hz
    rw [Bool.and_eq_true] at hzs
    have hzs1:=Nat.eq_of_beq_eq_true hzs.1
    have hpos:=Nat.le_of_ble_eq_true hzs.2
    obtain ⟨B,cB,rfl,news,hsr,hrow⟩:=hsrc s hs
    have hs0:=Holds.out hs hp
    obtain ⟨A,c,rfl,hnc,hcm,hl,hown⟩:=hs.q _ (bp hp)
    have hcs:∃ cs,bV kd s xs cs∧(∀ a,A=some a→∀ j u,cs[j]?=some u→s.w.cell? (a.add j)=some u)∧(0 < c→∃ g cur,A=some ⟨g,0,none⟩∧s.w.heap[g]?=some (.cells cur e (0,0))∧cur.size=c*kd.size∧cur.toList.take (xs.length*kd.size)=cs):=by
      by_cases hc:0 < c
      · obtain ⟨g,cur,cs,rfl,hh,hsz,htk,hr⟩:=hown hc
        refine ⟨cs,hr,fun a ha j u hu=>?_,fun _=>⟨g,cur,rfl,hh,hsz,htk⟩⟩
        cases ha
        rw [kL]
        rw [← htk,List.getElem?_take] at hu
        split at hu
        · simpa [World.cell?,hh] using hu
        · cases hu
      · refine ⟨[],?_,fun _ _ _ _ h=>by simp at h,fun h=>absurd h hc⟩
        rw [List.eq_nil_of_length_eq_zero (show xs.length=0 by omega)];rfl
    obtain ⟨cs,hrx,hA,hown2⟩:=hcs
    by_cases hnn:A=none∧0 < c
    · obtain ⟨g,_,h1,_⟩:=hown2 hnn.2;rw [hnn.1] at h1;cases h1
    obtain ⟨A',c',w',hr,hcase⟩:=Ch (P:=P) (ty:=o.type) (cB:=cB) ht he hzs1 hpos hrx.length hnc hcm hA (fun h=>by
      have:c=0:=Nat.eq_zero_of_not_pos fun h2=>hnn ⟨h,h2⟩
      omega) (fun _ h2=>hown2 (by omega)) hsr hrow.one hb.1 hb.2
    have hrun:∀ ty,(Builtin.append_ #[t,t] ty #[.slice A xs.length c,.slice B ys.length cB]).run P s.w=.ok (.slice A' (xs.length+ys.length) c') w':=fun ty=>hr
    have hex:(execOp E.ev o).run P s.w=.ok (.value (.slice A' (xs.length+ys.length) c')) w':=Ay ho hrun
    rcases hcase with ⟨hm,rfl,rfl,rfl⟩ | ⟨hm,hcm',hnc',g,cur,rfl,hh,hsz,htk,hos,htp,hout,hcase⟩
    · have hy:ys=[]:=List.eq_nil_of_length_eq_zero hm
      subst hy
      refine ⟨_,s,hex,trivial,ok,?_⟩
      show Holds s (bb kd e (.slice A' (xs.length+0) c') (xs++[]) :: bo H j)
      rw [List.append_nil,Nat.add_zero];exact hs0
    · have hc0:0 < c':=by omega
      have hfr:∀ k,A=some ⟨k,0,none⟩→0 < c→k < s.w.heap.size∧¬ s.fz k:=fun k hk hc=>hs0.own k (by
        subst hk;simp only [dN,List.flatMap_cons,List.mem_append];refine .inl ?_
        show k ∈ nQ (.slice (some ⟨k,0,none⟩) xs.length c);rw [qu hc];exact List.mem_singleton.2 rfl)
      have hle:Le s ⟨w',s.fz⟩:=by
        rcases hcase with ⟨h1,h2,h3,h4⟩ | ⟨_,h3,h4⟩
        · exact ⟨hos,htp,hout,Nat.le_of_eq h3.symm,fun k hk=>⟨hk,h4 k (fun e=>(hfr g h1 (by omega)).2 (e ▸ hk))⟩⟩
        · exact ⟨hos,htp,hout,by show s.w.heap.size≤w'.heap.size;omega,fun k hk=>⟨hk,h4 k (ok k hk)⟩⟩
      have hlx:(xs++ys).length=xs.length+ys.length:=List.length_append
      have hbs:nQ (.slice (some ⟨g,0,none⟩) (xs.length+ys.length) c')=[g]:=qu hc0
      have hq:(bb kd e (.slice (some ⟨g,0,none⟩) (xs.length+ys.length) c') (xs++ys)).q ⟨w',s.fz⟩ :=
        ⟨_,c',by rw [hlx],by rw [hlx];exact hnc',hcm',by rw [hlx];exact hb.2,fun _=>⟨g,cur,_,rfl,hh,hsz,by rw [hlx];exact htk,(hrx.append hrow).mono hle⟩⟩
      rcases hcase with ⟨h1,h2,h3,h4⟩ | ⟨rfl,h3,h4⟩
      · have hb2:(bb kd e (.slice A xs.length c) xs).bs=[g]:=by
          rw [h1];exact qu (n:=xs.length) (by omega)
        obtain ⟨ok',hs'⟩:=Holds.upd ok hs0 h3 hos htp hout (fun k _ hn=>h4 k (fun e=>hn (by rw [hb2,e];simp))) (y:=bb kd e (.slice (some ⟨g,0,none⟩) (xs.length+ys.length) c') (xs++ys)) (by rw [hb2];exact hbs) hq
        exact ⟨_,⟨w',s.fz⟩,hex,trivial,ok',hs'⟩
      · obtain ⟨ok',hs'⟩:=Holds.new ok hs0.tail (by omega) hos htp hout h4 (y:=bb kd e (.slice (some ⟨s.w.heap.size,0,none⟩) (xs.length+ys.length) c') (xs++ys)) (.inl hbs) hq
        exact ⟨_,⟨w',s.fz⟩,hex,trivial,ok',hs'⟩) (fun p _=>g p)
/-- append onto the constant nil -/
theorem sW {α:Type} {kd:Kd α} {t e:TypeId} {agg:Bool} {by_:Nat} {z u:Value} {ys zs:List α} (hsrc:vj H kd u ys) (hz:cY by_ [] ys=some zs) (h:dec n ops E i EI=some (t,t,.slice none 0 0,u))
    (ht:oj P t=some e) (he:cM P e=some (agg,kd.size,by_,z)) (hzs:(Nat.beq z.cells.size kd.size && Nat.ble 1 kd.size)=true)
    (g:∀ v':Value,WI P n ops (i+1) Q (E.putO (dM ops i) v') (bb kd e v' zs :: H)):WI P n ops i Q E H :=
  WI.ent (bM (kd:=kd) (e:=e)) (cv (H:=bb kd e (.slice none 0 0) [] :: H) 0 rfl (fun s hs=>hsrc s hs.tail) hz h ht he hzs g)
end
end Gw
