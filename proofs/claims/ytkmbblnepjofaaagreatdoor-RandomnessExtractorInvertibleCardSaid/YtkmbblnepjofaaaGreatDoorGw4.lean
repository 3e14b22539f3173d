/- Own words: make, cuts, copy, numbers, calls; the words of the printed plain functions. -/
import Derived.Test.YtkmbblnepjofaaaGreatDoorGw3
set_option linter.unusedVariables false
namespace Gw
open Go Gv
section
variable {P:Program} {n:Nat} {Q:b7} {E:Env} {H F:List aC} {ops:pp} {i:Nat}

/- ---- make -/
theorem xS (z:Array Value) (_h:0 < z.size):∀ n,(madeCells z (n*z.size)).toList=(List.replicate n z.toList).flatten:=by
  have hL:∀ k,(madeCells z k).toList=(List.range k).map (fun q=>z[q % z.size]!):=fun k=>by simp [madeCells]
  intro n
  induction n with
  | zero=>rw [hL];simp
  | succ n ih =>
    rw [hL] at ih ⊢
    rw [show (n+1)*z.size=n*z.size+z.size by rw [Nat.add_mul,Nat.one_mul],List.range_add,List.map_append,ih,List.replicate_succ',List.flatten_append]
    congr 1
    simp only [List.map_map,List.flatten_cons,List.flatten_nil,List.append_nil]
    apply List.ext_getElem
    · simp
    · intro j h1 h2
      simp only [List.length_map,List.length_range] at h1
      have e:(n*z.size+j) % z.size=j:=by rw [Nat.add_comm,Nat.add_mul_mod_self_right,Nat.mod_eq_of_lt h1]
      simp [e,h1]
def Gp (E:Env) (o:Oper):Option (TypeId × Value × Value):=match o.op with | .makeSlice t l c=>some (t,E.ev l,E.ev c) | _=>none
theorem ng {α:Type} {b:Nat} {m n:Int} {x:α} {zs:List α} (h:og b m n x=some zs):(0≤m∧m≤n∧(b:Int)*n≤281474976710656∧n≤140737488355328)∧List.replicate m.toNat x=zs:=by
  unfold og at h
  split at h
  · rename_i hc;cases h;exact ⟨hc,rfl⟩
  · cases h
theorem o7 {α:Type} {kd:Kd α} {t e:TypeId} {agg:Bool} {by_:Nat} {z:Value} {kl kc:IntKind} {m N:Int} {x0:α} {zs:List α} (gh:kd.G) (hm:og by_ m N x0=some zs) (h:dec n ops E i Gp=some (t,.int kl m,.int kc N)) (ht:oj P t=some e) (he:cM P e=some (agg,kd.size,by_,z))
    (hzs:(Nat.beq z.cells.size kd.size && Nat.ble 1 kd.size)=true) (hz:z.cells.toList=kd.cells x0 gh) (hi:∀ s,Holds s H→∀ a ∈ kd.items x0 gh,a.q s)
    (g:∀ v:Value,WI P n ops (i+1) Q (E.putO (dM ops i) v) (bb kd e v zs :: H)):WI P n ops i Q E H :=
  pO (X:=Value) (C:=fun _=>True) (V:=id) h (fun o ho s ok hs=>by
    obtain ⟨⟨h0,hmn,hb,hn⟩,rfl⟩:=ng hm
    obtain ⟨m',rfl⟩:=Int.eq_ofNat_of_zero_le h0
    obtain ⟨N',rfl⟩:=Int.eq_ofNat_of_zero_le (show 0≤N by omega)
    rw [Bool.and_eq_true] at hzs
    have hzs1:=Nat.eq_of_beq_eq_true hzs.1
    have hpos:=Nat.le_of_ble_eq_true hzs.2
    obtain ⟨ii,d,hi',hd,_,hsz,hby,hz'⟩:=fY he
    have hu:=iL ht
    have hrun:=run_make (P:=P) s.w t e ii z hu hi' hz' kl kc m' N' (by omega) (by omega) (by rw [hby];exact hb) (by omega)
    simp only [Int.toNat_natCast] at hrun ⊢
    have hflat:=xS z.cells (by omega) N'
    rw [hzs1] at hflat
    have hle:=uR ok (.cells (madeCells z.cells (N'*ii.size)) e)
    have hrow:bV kd s (List.replicate N' x0) (List.replicate N' z.cells.toList).flatten:=bV.replicate ⟨gh,hz,hi s hs⟩ N'
    have hrowm:=(hrow.take m').mono hle
    have emn:(List.replicate N' x0).take m'=List.replicate m' x0:=by rw [List.take_replicate,Nat.min_eq_left (by omega)]
    rw [emn] at hrowm
    obtain ⟨ok',hs'⟩:=pa ok hs (.cells (madeCells z.cells (N'*ii.size)) e) (y:=bb kd e (.slice (some ⟨s.w.heap.size,0,none⟩) m' N') (List.replicate m' x0)) (by
        show nQ (.slice (some ⟨s.w.heap.size,0,none⟩) m' N')=_ ∨ nQ (.slice (some ⟨s.w.heap.size,0,none⟩) m' N')=_
        cases N' with | zero=>exact .inr rfl | succ _=>exact .inl rfl)
      ⟨_,N',by rw [List.length_replicate],by rw [List.length_replicate];omega,by simp only [maxLen];omega,by rw [List.length_replicate];omega,
       fun _=>⟨s.w.heap.size,_,_,rfl,heap_alloc_new _ _,by rw [size_madeCells,hsz],by rw [hsz,hflat,List.length_replicate],hrowm⟩⟩
    refine ⟨_,⟨s.w.alloc (.cells (madeCells z.cells (N'*ii.size)) e),s.fz⟩,?_,trivial,ok',hs'⟩
    unfold Gp at ho
    split at ho
    · rename_i hop
      simp only [Option.some.injEq,Prod.mk.injEq] at ho
      obtain ⟨rfl,hl,hc⟩:=ho
      unfold execOp
      rw [hop]
      simp only [hl,hc]
      exact rP hrun
    · cases ho) (fun p _=>g p)

/- ---- cuts -/
def FU (E:Env) (o:Oper):Option (TypeId × Value × Option Value × Option Value × Option Value) :=
  match o.op with
  | .slice t x lo hi mx=>some (t,E.ev x,lo.map E.ev,hi.map E.ev,mx.map E.ev)
  | _=>none
theorem xr {t e:TypeId} {agg:Bool} {sz by_:Nat} {z:Value} (ht:oj P t=some e) (he:cM P e=some (agg,sz,by_,z)) {A:Option Addr} {n c:Nat} {lo hi mx:Option Value} {l h m:Nat} (w:World)
    (hb:(Instr.sliceBounds true n c lo hi mx).run P w=.ok (l,h,m) w) :
    (Instr.sliceAt t (.slice A n c) lo hi mx).run P w=.ok (.slice (if m=l then A else A.map (·.add (l*sz))) (h - l) (m - l)) w:=by
  obtain ⟨i,d,hi',hd,_,rfl,_,_⟩:=fY he
  have hu:=iL ht
  have hsz:(Go.sizeOf e).run P w=.ok i.size w:=by simp [Go.sizeOf,typeInfo,hi']
  simp [Instr.sliceAt,run_underlying hu,Instr.slice,hb,hsz]
theorem yg.cut {α:Type} {kd:Kd α} {s:St} {A:Option Addr} {c lo hi m:Nat} {xs:List α} (h:yg kd s A c xs) (h1:lo≤hi) (h2:hi≤xs.length) (h3:hi≤m) (h4:m≤c) :
    yg kd s (if m=lo then A else A.map (·.add (lo*kd.size))) (m - lo) ((xs.drop lo).take (hi - lo)):=by
  obtain ⟨hc,hcm,hl,h⟩:=h
  refine ⟨by rw [List.length_take,List.length_drop];omega,by omega,by rw [List.length_take,List.length_drop];omega,?_⟩
  rcases h with rfl | ⟨b,off,arr,e,f,cs,rfl,hf,hh,hr,hcell⟩
  · exact .inl (by simp)
  · by_cases hlo:m=lo
    · exact .inl (by have : hi - lo = 0 := by omega
                     rw [this];rfl)
    · rw [if_neg hlo]
      refine .inr ⟨b,off+lo*kd.size,arr,e,f,_,?_,hf,hh,(hr.drop lo).take (hi - lo),fun j u hu=>?_⟩
      · show some ((⟨b,off,none⟩:Addr).add _)=_
        rw [kL]
      · have:=hcell _ u (pk hu)
        rw [Nat.add_assoc];exact this
theorem m7 {α:Type} {xs zs:List α} {lo hi:Int} (h:nB xs lo hi=some zs):(0≤lo∧lo≤hi∧hi≤xs.length)∧(xs.drop lo.toNat).take (hi.toNat - lo.toNat)=zs:=by
  unfold nB at h
  split at h
  · rename_i hc;cases h;exact ⟨hc,rfl⟩
  · cases h
def FZ (lo:Option Value) (l:Int):Prop:=match lo with | none=>l=0 | some v=>∃ k,v=.int k l
def Gu (hi:Option Value) (h:Int) (N:Nat):Prop:=match hi with | none=>h=N | some v=>∃ k,v=.int k h
theorem sb (k:IntKind) (a y:Nat) (code:BoundsCode) (hay:a≤y) (w:World):(Instr.sliceBound (.int k a) y code).run P w=.ok a w:=by
  have:=run_sliceBound (P:=P) w k a y code (by omega) (by omega)
  simpa using this
theorem oZ {α:Type} {kd:Kd α} {t e:TypeId} {agg:Bool} {by_:Nat} {z v:Value} {lo hi:Option Value} {xs zs:List α} {l r:Int} (j:Nat) (hp:pick H j=some (nt kd v xs)) (hc:nB xs l r=some zs) (hlo:FZ lo l) (hhi:Gu hi r xs.length) (h:dec n ops E i FU=some (t,v,lo,hi,none))
    (ht:oj P t=some e) (he:cM P e=some (agg,kd.size,by_,z)) (g:∀ v':Value,WI P n ops (i+1) Q (E.putO (dM ops i) v') (nt kd v' zs :: H)):WI P n ops i Q E H :=
  pO (X:=Value) (C:=fun _=>True) (V:=id) h (fun o ho s ok hs=>by
    obtain ⟨⟨h0,h1,h2⟩,rfl⟩:=m7 hc
    obtain ⟨l',rfl⟩:=Int.eq_ofNat_of_zero_le h0
    obtain ⟨r',rfl⟩:=Int.eq_ofNat_of_zero_le (show 0≤r by omega)
    simp only [Int.toNat_natCast]
    obtain ⟨A,c,rfl,hq⟩:=hs.q _ (bp hp)
    have hcut:=hq.cut (lo:=l') (hi:=r') (m:=c) (by omega) (by omega) (by have:=hq.1;omega) (Nat.le_refl _)
    have el:((xs.drop l').take (r' - l')).length=r' - l':=by rw [List.length_take,List.length_drop];omega
    refine ⟨.slice (if c=l' then A else A.map (·.add (l'*kd.size))) (r' - l') (c - l'),s,?_,trivial,ok,hs.consPr rfl ⟨_,_,by rw [el],hcut⟩⟩
    unfold FU at ho
    split at ho
    · rename_i t' x lo' hi' mx hop
      simp only [Option.some.injEq,Prod.mk.injEq] at ho
      obtain ⟨rfl,hx,el1,el2,el3⟩:=ho
      have hb:(Instr.sliceBounds true xs.length c (lo'.map E.ev) (hi'.map E.ev) (mx.map E.ev)).run P s.w=.ok (l',r',c) s.w:=by
        rw [el1,el2,el3]
        have hxc:=hq.1
        cases lo with
        | none =>
          have:l'=0:=Int.ofNat.inj hlo
          subst this
          cases hi with
          | none => have : r' = xs.length := Int.ofNat.inj hhi
                    subst this;simp [Instr.sliceBounds]
          | some v=>obtain ⟨k,rfl⟩:=hhi;simp [Instr.sliceBounds,sb k r' c _ (by omega)]
        | some u =>
          obtain ⟨k1,rfl⟩:=hlo
          cases hi with
          | none => have : r' = xs.length := Int.ofNat.inj hhi
                    subst this;simp [Instr.sliceBounds,sb k1 l' xs.length _ (by omega)]
          | some v=>obtain ⟨k,rfl⟩:=hhi;simp [Instr.sliceBounds,sb k r' c _ (by omega),sb k1 l' r' _ (by omega)]
      unfold execOp
      rw [hop]
      simp only [hx]
      exact c8 (xr ht he s.w hb)
    · cases ho) (fun p _=>g p)
/-- A cut whose room ends where it ends. -/
theorem Ed {α:Type} {kd:Kd α} {t e:TypeId} {agg:Bool} {by_:Nat} {z v:Value} {lo:Option Value} {k2 k3:IntKind} {xs zs:List α} {l r:Int} (j:Nat) (hp:pick H j=some (nt kd v xs)) (hc:nB xs l r=some zs) (hlo:FZ lo l) (h:dec n ops E i FU=some (t,v,lo,some (.int k2 r),some (.int k3 r)))
    (ht:oj P t=some e) (he:cM P e=some (agg,kd.size,by_,z)) (g:∀ v':Value,WI P n ops (i+1) Q (E.putO (dM ops i) v') (nt kd v' zs :: Ao v' :: H)):WI P n ops i Q E H :=
  pO (X:=Value) (C:=fun _=>True) (V:=id) h (fun o ho s ok hs=>by
    obtain ⟨⟨h0,h1,h2⟩,rfl⟩:=m7 hc
    obtain ⟨l',rfl⟩:=Int.eq_ofNat_of_zero_le h0
    obtain ⟨r',rfl⟩:=Int.eq_ofNat_of_zero_le (show 0≤r by omega)
    simp only [Int.toNat_natCast]
    obtain ⟨A,c,rfl,hq⟩:=hs.q _ (bp hp)
    have hcut:=hq.cut (lo:=l') (hi:=r') (m:=r') (by omega) (by omega) (Nat.le_refl _) (by have:=hq.1;omega)
    have el:((xs.drop l').take (r' - l')).length=r' - l':=by rw [List.length_take,List.length_drop];omega
    have hs1:Holds s (Ao (.slice (if r'=l' then A else A.map (·.add (l'*kd.size))) (r' - l') (r' - l')) :: H):=hs.consPr rfl ⟨_,_,rfl⟩
    refine ⟨.slice (if r'=l' then A else A.map (·.add (l'*kd.size))) (r' - l') (r' - l'),s,?_,trivial,ok,hs1.consPr rfl ⟨_,_,by rw [el],hcut⟩⟩
    unfold FU at ho
    split at ho
    · rename_i t' x lo' hi' mx hop
      simp only [Option.some.injEq,Prod.mk.injEq] at ho
      obtain ⟨rfl,hx,el1,el2,el3⟩:=ho
      have hb:(Instr.sliceBounds true xs.length c (lo'.map E.ev) (hi'.map E.ev) (mx.map E.ev)).run P s.w=.ok (l',r',r') s.w:=by
        rw [el1,el2,el3]
        have hxc:=hq.1
        cases lo with
        | none =>
          have:l'=0:=Int.ofNat.inj hlo
          subst this
          simp [Instr.sliceBounds,sb k2 r' r' _ (Nat.le_refl _),sb k3 r' c _ (by omega)]
        | some u =>
          obtain ⟨k1,rfl⟩:=hlo
          simp [Instr.sliceBounds,sb k2 r' r' _ (Nat.le_refl _),sb k3 r' c _ (by omega),sb k1 l' r' _ (by omega)]
      unfold execOp
      rw [hop]
      simp only [hx]
      exact c8 (xr ht he s.w hb)
    · cases ho) (fun p _=>g p)

/- ---- copy -/
def GZ (E:Env) (o:Oper):Option (TypeId × TypeId × Value × Value) :=
  match o.op with
  | .call c=>match c.callee,c.args.toList,c.argTypes.toList with
    | .builtin .copy,[x,y],[t,u]=>some (t,u,E.ev x,E.ev y)
    | _,_,_=>none
  | _=>none
theorem Fp {α:Type} {kd:Kd α} {t t2 e:TypeId} {agg:Bool} {by_:Nat} {z v u:Value} {xs ys:List α} (j:Nat) (hp:pick H j=some (bb kd e v xs)) (hsrc:vj H kd u ys) (h:dec n ops E i GZ=some (t,t2,v,u)) (hk:kd.size=1)
    (ht:oj P t=some e) (he:cM P e=some (agg,1,by_,z))
    (g:WI P n ops (i+1) Q (E.putO (dM ops i) (.int .i64 ((min ys.length xs.length:Nat):Int))) (bb kd e v (uZ xs ys) :: bo H j)):WI P n ops i Q E H :=
  pO (X:=Unit) (C:=fun _=>True) (V:=fun _=>.int .i64 ((min ys.length xs.length:Nat):Int)) (H':=fun _=>bb kd e v (uZ xs ys) :: bo H j) h (fun o ho s ok hs=>by
    obtain ⟨B,cB,rfl,news,hsr,hrow⟩:=hsrc s hs
    have hs0:=Holds.out hs hp
    obtain ⟨A,c,rfl,hnc,hcm,hl,hown⟩:=hs.q _ (bp hp)
    have hu:=iL ht
    obtain ⟨ii,dd,hi,_,_,hsz1,_,_⟩:=fY he
    have hs1:(P.info? e).map (·.size)=some 1:=by rw [hi];simp [hsz1]
    have hop:∃ cl x y,o.op=.call cl∧cl=⟨.builtin .copy,#[x,y],#[t,t2]⟩∧E.ev x=.slice A xs.length c∧E.ev y=.slice B ys.length cB:=by
      unfold GZ at ho
      split at ho
      · rename_i cl hop
        split at ho
        · rename_i x y t' u' hc ha hty
          simp only [Option.some.injEq,Prod.mk.injEq] at ho
          obtain ⟨rfl,rfl,hx,hy⟩:=ho
          obtain ⟨callee,args,argTypes⟩:=cl
          simp only at hc ha hty
          have ha':args=#[x,y]:=by rw [← Array.toArray_toList (xs:=args),ha]
          have ht':argTypes=#[t',u']:=by rw [← Array.toArray_toList (xs:=argTypes),hty]
          subst ha';subst ht';subst hc
          exact ⟨_,x,y,hop,rfl,hx,hy⟩
        · cases ho
      · cases ho
    obtain ⟨cl,x,y,hop,rfl,hx,hy⟩:=hop
    generalize hm:min ys.length xs.length=m
    unfold uZ
    rw [hm]
    by_cases h0:m=0
    · refine ⟨(),s,?_,trivial,ok,?_⟩
      · have hr:=run_copy_none (P:=P) s.w t t2 o.type e A B xs.length c ys.length cB hu hs1 (by rw [h0] at hm;exact hm)
        unfold execOp
        rw [hop]
        simp [resolve,invoke,builtin,hx,hy,hr,h0,goInt]
      · rw [h0];simpa using hs0
    · have hc0:0 < c:=by omega
      obtain ⟨b,cur,cs,rfl,hh,hsz,htk,hrx⟩:=hown hc0
      obtain ⟨hnl,hsr⟩:=hsr
      rw [hk,Nat.mul_one] at hnl
      obtain ⟨ad,rfl,hcell⟩:=hsr.resolve_left (by omega)
      rw [hk,Nat.mul_one] at htk hsz
      have hcl:cs.length=xs.length:=by have:=hrx.length;rw [hk,Nat.mul_one] at this;exact this
      have hnt:(news.take m).length=m:=by rw [List.length_take];omega
      have hr:=run_copy_row (P:=P) s.w t t2 o.type e b 0 xs.length c ad ys.length cB cur e (news.take m) hu hs1 hh (by rw [hnt];exact hm.symm)
        (fun j v hv=>by
          rw [List.getElem?_take] at hv
          split at hv
          · exact hcell j v hv
          · cases hv) (by rw [hnt];omega) (fun v hv=>hrow.one v (List.mem_of_mem_take hv))
      rw [hnt,Nat.zero_add,List.take_zero,List.nil_append] at hr
      have hbs:(bb kd e (.slice (some ⟨b,0,none⟩) xs.length c) xs).bs=[b]:=qu (n:=xs.length) hc0
      have hle:Le s ⟨s.w.setRow b (news.take m++cur.toList.drop m).toArray,s.fz⟩ :=
        ⟨rfl,rfl,rfl,Nat.le_of_eq (setRow_size ..).symm,fun k hk'=>⟨hk',setRow_other _ _ _ _ (fun e'=>(hs0.own b (by simp only [dN,List.flatMap_cons,hbs];simp)).2 (e' ▸ hk'))⟩⟩
      have h1:=hrow.take m
      have h2:=hrx.drop m
      rw [hk,Nat.mul_one] at h1 h2
      have hrow':=(h1.append h2).mono hle
      have hlen:(ys.take m++xs.drop m).length=xs.length:=by rw [List.length_append,List.length_take,List.length_drop];omega
      obtain ⟨ok',hs'⟩:=Holds.upd ok hs0 (w':=s.w.setRow b (news.take m++cur.toList.drop m).toArray) (setRow_size ..) rfl rfl rfl
        (fun k _ hk'=>setRow_other _ _ _ _ (fun e'=>hk' (by rw [hbs,e'];simp))) (y:=bb kd e (.slice (some ⟨b,0,none⟩) xs.length c) (ys.take m++xs.drop m)) rfl
        ⟨_,c,by rw [hlen],by rw [hlen];exact hnc,hcm,by rw [hlen];exact hl,fun _=>⟨b,_,_,rfl,setRow_heap _ _ _ _ _ _ hh,by
            rw [hk,Nat.mul_one];simp only [List.size_toArray,List.length_append,hnt,List.length_drop,Array.length_toList];omega,by
            rw [hlen,hk,Nat.mul_one,← htk]
            apply List.ext_getElem?
            intro j
            simp only [List.getElem?_take,List.getElem?_append,hnt,List.getElem?_drop]
            by_cases hj:j < xs.length
            · simp only [hj,if_true]
              by_cases h3:j < m
              · simp only [h3,if_true]
              · simp only [h3,if_false]
                rw [if_pos (by omega)]
            · simp only [hj,if_false]
              rw [if_neg (by omega),if_neg (by omega)],hrow'⟩⟩
      refine ⟨(),⟨s.w.setRow b (news.take m++cur.toList.drop m).toArray,s.fz⟩,?_,trivial,ok',hs'⟩
      unfold execOp
      rw [hop]
      simp [resolve,invoke,builtin,hx,hy,hr,goInt]) (fun _ _=>g)
end
end Gw
