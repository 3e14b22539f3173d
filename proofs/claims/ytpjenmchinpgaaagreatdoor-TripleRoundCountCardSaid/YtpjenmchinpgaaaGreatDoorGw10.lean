/- Own words: room made ahead (append of zeros onto nil), a prefix of an own slice. -/
import Derived.Test.YtpjenmchinpgaaaGreatDoorGw9
import Derived.Lib.AppendZeros
set_option linter.unusedVariables false
namespace Gw
open Go Gv
section
variable {P:Program}{n:Nat}{Q:cQ}{E:Env}{H F:List aG}{ops:sH}{i:Nat}
/-- a type of whole numbers -/
def KP(P:Program)(t:TypeId):Bool:=match P.underlying t with | some (.int _)=>true | _=>false
theorem E9{t:TypeId}(h:KP P t=true):∃k,P.underlying t=some (.int k):=by
 unfold KP at h
 split at h
 ·rename_i k hk;exact⟨k,hk⟩
 ·cases h
theorem zM(z:Array Value)(n:Nat):Builtin.zeroCells z n=madeCells z (n*z.size):=rfl
/-- append of zeros onto nil -/
theorem Nh{α:Type}{kd:Kd α}{t tx e:TypeId}{agg:Bool}{by_:Nat}{z:Value}{k:IntKind}{N:Int}{x0:α}{zs:List α}(gh:kd.G)(hm:o9 by_ N N x0=some zs)(h0:0 < N)(h:dec n ops E i NB=some (t,tx,.slice none 0 0,.int k N))(ht:rz P t=some e)(hx:KP P tx=true)(he:dR P e=some (agg,kd.size,by_,z))
    (hzs:(Nat.beq z.cells.size kd.size && Nat.ble 1 kd.size)=true) (hz:z.cells.toList=kd.cells x0 gh) (hi:∀ s,Holds s H→∀ a ∈ kd.items x0 gh,a.q s)
    (g:∀ v:Value,WI P n ops (i+1) Q (E.putO (eX ops i) v) (bE kd e v zs :: H)):WI P n ops i Q E H :=
  rC (X:=Value) (C:=fun _=>True) (V:=id) h (fun o ho s ok hs=>by
    obtain ⟨⟨_,_,hb,hn⟩,rfl⟩:=ci hm
    obtain ⟨m,rfl⟩:=Int.eq_ofNat_of_zero_le (show 0≤N by omega)
    rw [Bool.and_eq_true] at hzs
    have hzs1:=Nat.eq_of_beq_eq_true hzs.1
    have hpos:=Nat.le_of_ble_eq_true hzs.2
    obtain ⟨ii,d,hi',hd,_,hsz,hby,hz'⟩:=ja he
    have hu:=lK ht
    obtain ⟨kk,hk⟩:=E9 hx
    have hb':m*by_≤281474976710656:=by
      have:((m*by_:Nat):Int)≤((281474976710656:Nat):Int):=by rw [Int.natCast_mul,Int.mul_comm];exact hb
      exact Int.ofNat_le.1 this
    have hrun:=fun ty=>Lib.run_append_nil_zeros (P:=P) s.w t tx ty e ii z k kk hu hk hi' hz' m (by omega) (by omega) (by omega) (by rw [hby];exact hb')
    have hge:=grownCap_ge s.w m 0 e
    have hcm:grownCap s.w m 0 e≤maxLen:=grownCap_le_maxLen s.w m 0 e (by simp only [maxLen];omega)
    generalize hC:grownCap s.w m 0 e=C at hrun hge hcm
    have hflat:(Builtin.zeroCells z.cells m++Builtin.zeroCells z.cells (C - m)).toList=(List.replicate C z.cells.toList).flatten:=by
      rw [Array.toList_append,zM,zM,wM z.cells (by omega),wM z.cells (by omega),← List.flatten_append,List.replicate_append_replicate,show m+(C - m)=C by omega]
    have hle:Le s ⟨s.w.drew.alloc (.cells (Builtin.zeroCells z.cells m++Builtin.zeroCells z.cells (C - m)) e),s.fz⟩ :=
      ⟨rfl,rfl,rfl,by show _≤(s.w.heap.push _).size;simp,fun k hk=>⟨hk,Go.RowKit.Below.heap_alloc s.w.drew _ k (ok k hk)⟩⟩
    have hrow:c8 kd s (List.replicate C x0) (List.replicate C z.cells.toList).flatten:=c8.replicate ⟨gh,hz,hi s hs⟩ C
    have hrowm:=(hrow.take m).mono hle
    have emn:(List.replicate C x0).take m=List.replicate m x0:=by rw [List.take_replicate,Nat.min_eq_left (by omega)]
    rw [emn] at hrowm
    simp only [Int.toNat_natCast]
    obtain ⟨ok',hs'⟩:=Holds.new ok hs (w':=s.w.drew.alloc (.cells (Builtin.zeroCells z.cells m++Builtin.zeroCells z.cells (C - m)) e)) (by show _ < (s.w.heap.push _).size;simp) rfl rfl rfl (fun k hk=>Go.RowKit.Below.heap_alloc s.w.drew _ k hk)
      (y:=bE kd e (.slice (some ⟨s.w.heap.size,0,none⟩) m C) (List.replicate m x0)) (.inl (uc (n:=m) (by omega)))
      ⟨_,C,by rw [List.length_replicate],by rw [List.length_replicate];omega,hcm,by rw [List.length_replicate];omega,
       fun _=>⟨s.w.heap.size,_,_,rfl,heap_alloc_new s.w.drew _,by
          rw [← Array.length_toList,hflat,hrow.length,List.length_replicate],by rw [hflat,List.length_replicate],hrowm⟩⟩
    exact ⟨.slice (some ⟨s.w.heap.size,0,none⟩) m C,⟨_,s.fz⟩,Dk ho hrun,trivial,ok',hs'⟩) (fun p _=>g p)
/-- A prefix of an own slice: it is ours with its room. -/
theorem Nj{α:Type}{kd:Kd α}{t e:TypeId}{agg:Bool}{by_:Nat}{z v:Value}{hi:Option Value}{xs zs:List α}{r:Int}(j:Nat)(hp:pick H j=some (bE kd e v xs))(hc:oU xs 0 r=some zs)(hhi:Pq hi r xs.length)(h:dec n ops E i NC=some (t,v,none,hi,none))
    (ht:rz P t=some e) (he:dR P e=some (agg,kd.size,by_,z)) (g:∀ v':Value,WI P n ops (i+1) Q (E.putO (eX ops i) v') (bE kd e v' zs :: ct H j)):WI P n ops i Q E H :=
  rC (X:=Value) (C:=fun _=>True) (V:=id) h (fun o ho s ok hs=>by
    obtain ⟨⟨h0,h1,h2⟩,rfl⟩:=eG hc
    obtain ⟨r',rfl⟩:=Int.eq_ofNat_of_zero_le (show 0≤r by omega)
    simp only [Int.toNat_natCast,Int.toNat_zero,List.drop_zero,Nat.sub_zero]
    have hs0:=Holds.out hs hp
    obtain ⟨A,c,rfl,hnc,hcm,hl,hown⟩:=hs.q _ (cj hp)
    have el:(xs.take r').length=r':=by rw [List.length_take];omega
    have hq:(bE kd e (.slice A r' c) (xs.take r')).q s:=by
      refine ⟨A,c,by rw [el],by rw [el];omega,hcm,by rw [el];omega,fun hc0=>?_⟩
      obtain ⟨b,cur,cs,rfl,hh,hsz,htk,hrow⟩:=hown hc0
      refine ⟨b,cur,cs.take (r'*kd.size),rfl,hh,hsz,?_,hrow.take r'⟩
      rw [el,← htk,List.take_take,Nat.min_eq_left (Nat.mul_le_mul_right _ (by omega))]
    have hs':Holds s (bE kd e (.slice A r' c) (xs.take r') :: ct H j):=by
      have hbs:(bE kd e (.slice A r' c) (xs.take r')).bs=(bE kd e (.slice A xs.length c) xs).bs:=by
        show qQ (.slice A r' c)=qQ (.slice A xs.length c)
        cases A <;> cases c <;> rfl
      refine ⟨fun y hy=>?_,fun k hk=>hs0.own k ?_,?_⟩
      · rcases List.mem_cons.1 hy with rfl | hy
        · exact hq
        · exact hs0.q y (List.mem_cons_of_mem _ hy)
      · simpa only [eB,List.flatMap_cons,hbs] using hk
      · have:=hs0.nd;simpa only [eB,List.flatMap_cons,hbs] using this
    refine ⟨.slice A r' c,s,?_,trivial,ok,hs'⟩
    unfold NC at ho
    split at ho
    · rename_i t' x lo' hi' mx hop
      simp only [Option.some.injEq,Prod.mk.injEq] at ho
      obtain ⟨rfl,hx,el1,el2,el3⟩:=ho
      have hb:(Instr.sliceBounds true xs.length c (lo'.map E.ev) (hi'.map E.ev) (mx.map E.ev)).run P s.w=.ok (0,r',c) s.w:=by
        rw [el1,el2,el3]
        cases hi with
        | none => have : r' = xs.length := Int.ofNat.inj hhi
                  subst this;simp [Instr.sliceBounds]
        | some v=>obtain ⟨k,rfl⟩:=hhi;simp [Instr.sliceBounds,sb k r' c _ (by omega)]
      unfold execOp
      rw [hop]
      simp only [hx]
      have hv:(.slice (if c=0 then A else A.map (·.add (0*kd.size))) (r' - 0) (c - 0):Value)=.slice A r' c:=by
        rw [Nat.zero_mul,Nat.sub_zero,Nat.sub_zero]
        split
        · rfl
        · cases A with
          | none=>rfl
          | some a=>show Value.slice (some (a.add 0)) r' c=_;rw [Addr.add_zero']
      rw [← hv]
      exact eA (AH ht he s.w hb)
    · cases ho) (fun p _=>g p)
end
end Gw
