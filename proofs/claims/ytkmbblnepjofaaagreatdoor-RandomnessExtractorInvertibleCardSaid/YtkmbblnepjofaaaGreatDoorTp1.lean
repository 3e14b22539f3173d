/- The bridge from arguments that read as data to own words (kinds), and what a call that only makes new memory leaves. -/
import Derived.Test.YtkmbblnepjofaaaGreatDoorGw5
import Derived.Deep.Slices
import Derived.OpenShut
import Derived.Carry
import Derived.RowKit
import Derived.SizedLaws
set_option linter.unusedVariables false
namespace Gw
open Go Gv Go.ChangeShapes Go.WideShapes Go.Deep Go.RowKit
/-- Everything that is there is frozen. -/
def qK (W:World):St:=⟨W,fun k=>k < W.heap.size⟩
theorem Am (W:World):(qK W).Ok:=fun _ h=>h
def CZ {H:Type} (P:Program) (t:TypeId) (d:DataW H):Prop:=(d.weights P t).all (·≤reachBytes)=true
theorem xz {H:Type} {P:Program} {e:TypeId}:∀ {ds:List (DataW H)},(DataW.weightsAll P e ds).all (·≤reachBytes)=true→∀ d ∈ ds,CZ P e d
  | [],_,_,h=>nomatch h
  | d :: r,h,x,hx=>by
    rw [DataW.weightsAll,List.all_append,Bool.and_eq_true] at h
    rcases List.mem_cons.1 hx with rfl | hx
    · exact h.1
    · exact xz h.2 x hx
theorem qB {H:Type} {P:Program}:∀ {ts:List TypeId} {ds:List (DataW H)},(DataW.weightsEach P ts ds).all (·≤reachBytes)=true→∀ (i:Nat) t d,ts[i]?=some t→ds[i]?=some d→CZ P t d
  | [],_,_,i,t,d,h,_=>by simp at h
  | _ :: _,[],_,i,t,d,_,h=>by simp at h
  | t0 :: ts,d0 :: ds,h,i,t,d,h1,h2=>by
    rw [DataW.weightsEach,List.all_append,Bool.and_eq_true] at h
    cases i with
    | zero=>simp only [List.getElem?_cons_zero,Option.some.injEq] at h1 h2;subst h1;subst h2;exact h.1
    | succ i=>exact qB h.2 i t d (by simpa using h1) (by simpa using h2)
def mS (P:Program) (t:TypeId) {α:Type} (kd:Kd α) (ok:α→Prop):Prop :=
  ∀ {H:Type} (enc:TypeId × Value→H) (W:World) (n:Nat) (cs:List Value) (x:DataW H × List MemPlace),DataW.trod enc P W 0 (fun _=>true) true n t cs=some x→CZ P t x.1→∃ v:α,kd.rd (qK W) v cs∧ok v
theorem wf_u64 {n:Int} (h:(Lit.int .u64 n).wf=true):0≤n∧n < 18446744073709551616:=by
  simp [Lit.wf,IntKind.min,IntKind.max,IntKind.signed,IntKind.bits] at h;omega
theorem wf_i64 {n:Int} (h:(Lit.int .i64 n).wf=true) : -9223372036854775808≤n∧n < 9223372036854775808:=by
  simp [Lit.wf,IntKind.min,IntKind.max,IntKind.signed,IntKind.bits] at h;omega
theorem xW {P:Program} {t:TypeId} (ht:P.underlying t=some (.int .u64)):mS P t Kd.u64 (fun x=>x < 18446744073709551616):=by
  intro H enc W n cs x h hw0
  obtain ⟨m,rfl,_,hw⟩:=DataW.trod_int ht h
  have:=wf_u64 hw
  refine ⟨m.toNat,⟨(),?_,fun a ha=>nomatch ha⟩,by omega⟩
  show [Value.int .u64 m]=[Value.int .u64 (m.toNat:Int)]
  rw [Int.toNat_of_nonneg this.1]
theorem xV {P:Program} {t:TypeId} (ht:P.underlying t=some (.int .i64)):mS P t Kd.i64 (fun x => -9223372036854775808≤x∧x < 9223372036854775808):=by
  intro H enc W n cs x h hw0
  obtain ⟨m,rfl,_,hw⟩:=DataW.trod_int ht h
  exact ⟨m,⟨(),rfl,fun a ha=>nomatch ha⟩,wf_i64 hw⟩
theorem vG {α:Type} {kd:Kd α} {s:St} {V:Nat→α} {C:Nat→List Value} {n:Nat} (h:∀ i,i < n→kd.rd s (V i) (C i)):bV kd s ((List.range n).map V) ((List.range n).flatMap C):=by
  induction n with
  | zero=>simp [bV]
  | succ n ih =>
    rw [List.range_succ,List.map_append,List.flatMap_append]
    refine bV.append (ih fun i hi=>h i (by omega)) ?_
    simp only [List.map_cons,List.map_nil,List.flatMap_cons,List.flatMap_nil,List.append_nil]
    exact bV.single (h n (by omega))
theorem ve {C:Nat→List Value} {z:Nat} {n:Nat} (h:∀ i,i < n→(C i).length=z):∀ j u,((List.range n).flatMap C)[j]?=some u→j / z < n∧0 < z∧(C (j / z))[j % z]?=some u:=by
  induction n with
  | zero=>intro j u hu;simp at hu
  | succ n ih =>
    intro j u hu
    rw [List.range_succ,List.flatMap_append] at hu
    have hl:((List.range n).flatMap C).length=n*z:=by
      clear ih hu
      induction n with
      | zero=>simp
      | succ n ih=>rw [List.range_succ,List.flatMap_append,List.length_append,ih fun i hi=>h i (by omega)];simp [h n (by omega),Nat.succ_mul]
    by_cases g:j < n*z
    · rw [List.getElem?_append_left (by rw [hl];exact g)] at hu
      obtain ⟨a,b,c⟩:=ih (fun i hi=>h i (by omega)) j u hu
      exact ⟨by omega,b,c⟩
    · rw [List.getElem?_append_right (by rw [hl];omega),hl] at hu
      simp only [List.flatMap_cons,List.flatMap_nil,List.append_nil] at hu
      have hz:=h n (by omega)
      have hj:j - n*z < z:=by
        apply Classical.byContradiction
        intro c
        rw [List.getElem?_eq_none (by omega)] at hu
        cases hu
      have e1:j / z=n:=by
        rw [Nat.div_eq_iff (by omega)]
        constructor
        · omega
        · omega
      have e2:j % z=j - n*z:=by
        have:=Nat.div_add_mod j z
        rw [e1,Nat.mul_comm] at this
        omega
      exact ⟨by omega,by omega,by rw [e1,e2];exact hu⟩
theorem zr {P:Program} {t e:TypeId} {α:Type} [Inhabited α] {kd:Kd α} {ok:α→Prop} (ht:P.underlying t=some (.slice e)) (hc:P.cellsOf e=kd.size) (hz:0 < kd.size) (hby:0 < P.bytesOf e) (he:mS P e kd ok) :
    mS P t (Kd.sl kd) (fun xs=>xs.length≤140737488355328∧∀ x ∈ xs,ok x):=by
  intro H enc W n cs x h hw0
  rcases open_slice ht h with ⟨rfl,_⟩ | ⟨a,len,cap,m,n',D,Pl,rfl,_,hl,hm,hmm,hxe,hx⟩
  · exact ⟨[],⟨.slice none 0 0,rfl,fun a ha=>by
      simp only [Kd.sl,List.mem_singleton] at ha;subst ha
      exact ⟨none,0,rfl,yg.nil kd _ none 0 (by decide)⟩⟩,by simp⟩
  · simp only [if_true] at hmm
    subst hmm
    have hmax:m≤9223372036854775807:=by simpa [maxLen] using hm
    have hw1:(DataW.weights P t (.slice ((List.range len).map D) ((List.range (m - len)).map fun j=>D (len+j)))).all (·≤reachBytes)=true:=by rw [hxe] at hw0;exact hw0
    simp only [DataW.weights,ht,List.all_cons,List.all_append,Bool.and_eq_true,decide_eq_true_eq] at hw1
    have hcap:len≤140737488355328:=by
      have h1:=hw1.1
      simp only [List.length_map,List.length_range,reachBytes] at h1
      have:=Nat.le_mul_of_pos_right (len+(m - len)) hby
      omega
    have hwe:∀ i,i < len→CZ P e (D i):=fun i hi=>xz hw1.2.1 (D i) (List.mem_map.2 ⟨i,by simpa using hi,rfl⟩)
    obtain ⟨C,hC⟩:=choose_lt (α:=List Value) (n:=len) (p:=fun i c=>W.cells? 0 (a.add (i*kd.size)) kd.size=some c∧∃ v:α,kd.rd (qK W) v c∧ok v) (fun i hi=>by
      obtain ⟨cs',h1,h2⟩:=hx i (by omega)
      rw [hc] at h1
      exact ⟨cs',h1,he enc W _ _ _ h2 (hwe i hi)⟩)
    obtain ⟨V,hV⟩:=choose_lt (α:=α) (n:=len) (p:=fun i v=>kd.rd (qK W) v (C i)∧ok v) (fun i hi=>(hC i hi).2)
    refine ⟨(List.range len).map V,⟨.slice (some a) len m,rfl,fun y hy=>?_⟩,by simpa using hcap,fun y hy=>?_⟩
    · simp only [Kd.sl,List.mem_singleton] at hy
      subst hy
      refine ⟨some a,m,by simp,by simpa using hl,hmax,by simpa using hcap,?_⟩
      by_cases h0:len=0
      · subst h0;exact .inl rfl
      · right
        obtain ⟨b,off,spot⟩:=a
        have hc0:=(World.cells?_some (hC 0 (by omega)).1).2.2 0 hz
        have hlen:∀ i,i < len→(C i).length=kd.size:=fun i hi=>(World.cells?_some (hC i hi).1).2.1
        have h00:0 < (C 0).length:=by rw [hlen 0 (by omega)];exact hz
        rw [List.getElem?_eq_getElem h00] at hc0
        have hspot:spot=none:=by simpa [Addr.add] using World.cell?_spot hc0
        subst hspot
        have hblk:∃ arr e' f,W.heap[b]?=some (.cells arr e' f):=by
          unfold World.cell? at hc0
          split at hc0
          · next c e' f hh=>exact ⟨c,e',f,by simpa [Addr.add] using hh⟩
          · cases hc0
        obtain ⟨arr,e',f,hh⟩:=hblk
        have hb:b < W.heap.size:=by
          rcases Nat.lt_or_ge b W.heap.size with g | g
          · exact g
          · rw [Array.getElem?_eq_none g] at hh;cases hh
        refine ⟨b,off,arr,e',f,(List.range len).flatMap C,rfl,hb,hh,vG fun i hi=>(hV i hi).1,fun j u hu=>?_⟩
        obtain ⟨k1,k2,k3⟩:=ve hlen j u hu
        have:=(World.cells?_some (hC _ k1).1).2.2 (j % kd.size) (Nat.mod_lt _ k2)
        rw [k3] at this
        have e3:((⟨b,off,none⟩:Addr).add (j / kd.size*kd.size)).add (j % kd.size)=⟨b,off+j,none⟩:=by
          rw [add_add,add_plain]
          congr 1
          have:=Nat.div_add_mod j kd.size
          rw [Nat.mul_comm] at this
          omega
        rw [e3] at this
        unfold World.cell? at this
        simp only [hh] at this
        simpa using this
    · obtain ⟨i,hi,rfl⟩:=List.mem_map.1 hy
      exact (hV i (by simpa using hi)).2
/-- the fields of a struct, from a cell on -/
def tQ (P:Program) (fs:List Field) (off:Nat) {α:Type} (kd:Kd α) (ok:α→Prop):Prop :=
  ∀ {H:Type} (enc:TypeId × Value→H) (W:World) (n:Nat) (cs:List Value),(∀ f ∈ fs,∃ y,DataW.trod enc P W 0 (fun _=>true) true n f.type ((cs.drop f.offset).take (P.cellsOf f.type))=some y∧CZ P f.type y.1) →
    ∃ v:α,kd.rd (qK W) v ((cs.drop off).take kd.size)∧ok v
theorem wn {P:Program} {f:Field} {α:Type} {kd:Kd α} {ok:α→Prop} (hc:P.cellsOf f.type=kd.size) (he:mS P f.type kd ok):tQ P [f] f.offset kd ok:=by
  intro H enc W n cs h
  obtain ⟨y,hy,hyw⟩:=h f (by simp)
  rw [hc] at hy
  exact he enc W _ _ _ hy hyw
theorem rx {P:Program} {f:Field} {fs:List Field} {off':Nat} {α β:Type} {kd:Kd α} {kd':Kd β} {ok:α→Prop} {ok':β→Prop} (hc:P.cellsOf f.type=kd.size) (he:mS P f.type kd ok) (hr:tQ P fs off' kd' ok') (ho:off'=f.offset+kd.size) :
    tQ P (f :: fs) f.offset (Kd.pair kd kd') (fun x=>ok x.1∧ok' x.2):=by
  intro H enc W n cs h
  obtain ⟨y,hy,hyw⟩:=h f (by simp)
  rw [hc] at hy
  obtain ⟨v,⟨g,r1,r2⟩,o1⟩:=he enc W _ _ _ hy hyw
  obtain ⟨v',⟨g',r1',r2'⟩,o2⟩:=hr enc W n cs (fun f hf=>h f (by simp [hf]))
  refine ⟨(v,v'),⟨(g,g'),?_,fun a ha=>(List.mem_append.1 ha).elim (r2 a) (r2' a)⟩,o1,o2⟩
  show _=kd.cells v g++kd'.cells v' g'
  rw [← r1,← r1',ho]
  show (cs.drop f.offset).take (kd.size+kd'.size)=_
  rw [List.take_add,List.drop_drop]
theorem us {P:Program} {t:TypeId} {fs:Array Field} {α β:Type} {kd:Kd α} {ok:α→Prop} {f:β→α} (mk:α→β) (hf:∀ a,f (mk a)=a) (ht:P.underlying t=some (.struct fs)) (hs:P.cellsOf t=kd.size) (h:tQ P fs.toList 0 kd ok):mS P t (Kd.co kd f) (fun x=>ok (f x)):=by
  intro H enc W n cs x hx hw0
  obtain ⟨xs,m,_,hxe,hl,hlen,hall⟩:=DataW.trod_struct ht hx
  have hw1:(DataW.weights P t (.agg (xs.map (·.1)))).all (·≤reachBytes)=true:=by rw [hxe] at hw0;exact hw0
  simp only [DataW.weights,ht] at hw1
  obtain ⟨v,⟨g,r1,r2⟩,o1⟩:=h enc W m cs (fun f hf=>by
    obtain ⟨i,hi,e⟩:=List.getElem_of_mem hf
    have hi':i < fs.size:=by simpa using hi
    have:=hall i f (by rw [← e];simp [hi'])
    rw [List.getElem?_eq_getElem (by omega)] at this
    exact ⟨_,this,qB hw1 i _ _ (by rw [List.getElem?_map,← e,List.getElem?_eq_getElem hi];rfl) (by rw [List.getElem?_map,List.getElem?_eq_getElem (by omega)];rfl)⟩)
  refine ⟨mk v,⟨g,?_,?_⟩,by show ok (f (mk v));rw [hf];exact o1⟩
  · show cs=kd.cells (f (mk v)) g
    rw [hf,← r1,List.drop_zero,List.take_of_length_le (by omega)]
  · show ∀ a ∈ kd.items (f (mk v)) g,_
    rw [hf];exact r2
/-- what stays of the world of the call -/
theorem uU {W:World} {s:St} (h:Le (qK W) s):Below W.heap.size W s.w:=⟨h.os,h.tape,h.output,h.size,fun k hk=>(h.fz k hk).2⟩
end Gw
