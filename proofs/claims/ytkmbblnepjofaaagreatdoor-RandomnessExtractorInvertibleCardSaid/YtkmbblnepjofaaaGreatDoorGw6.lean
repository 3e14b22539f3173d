/- Own words: a region whose order is drawn. Every operation is shown once to do its part, whatever stands beside. -/
import Derived.Test.YtkmbblnepjofaaaGreatDoorGw5
set_option linter.unusedVariables false
namespace Gw
open Go Gv

def dw (o:Oper):List Nat:=(o.after.toList.filter (fun e=>Region.binds .any e)).map (·.on)
/-- what comes ahead of each operation -/
def nX:List Oper→List (List Nat)→List (List Nat)
  | [],acc=>acc
  | o :: r,acc=>nX r (acc++[dw o++(dw o).flatMap (fun d=>acc.getD d [])])
def uK (L:List Oper) (i:Nat):List Nat:=(nX L []).getD i []
def uC:List Nat→List (List Nat)
  | []=>[[]]
  | x :: r=>uC r++(uC r).map (x :: ·)
def xL (L:List Oper) (W:List Nat) (i:Nat) (D:List Nat):Bool :=
  !D.contains i && W.all (fun w=>(Nat.beq w i || !(uK L i).contains w || D.contains w) && (!(uK L w).contains i || !D.contains w) && (!D.contains w || W.all (fun v=>!(uK L w).contains v || D.contains v)))
def nodupB:List Nat→Bool
  | []=>true
  | x :: r=>!r.contains x && nodupB r
def oE (p:Nat→Oper→Bool):Nat→List Oper→Bool
  | _,[]=>true
  | k,o :: r=>p k o && oE p (k+1) r
def wl (o:Oper):Bool:=match o.op with | .select _ _=>false | _=>true
def oz (n:Nat) (ar:Array Oper):Bool :=
  nodupB (ar.toList.filterMap (·.dst)) &&
  oE (fun i o=>okO n o.dst && wl o && (dw o).all (fun d=>Nat.blt d i) && (o.looksAt ar).all (fun t=>oE (fun j q=>!(q.dst == some t) || ((dw o).contains j || (dw q).contains i)) 0 ar.toList)) 0 ar.toList

/-- the environment in which the operations marked by S have been done -/
def pI (S:Nat→Bool):Nat→List Oper→List Value→List (Nat × Value)→List (Nat × Value)
  | k,o :: r,v :: vs,l=>match S k,o.dst with
    | true,some d=>(d,v) :: pI S (k+1) r vs l
    | _,_=>pI S (k+1) r vs l
  | _,_,_,l=>l
def Al (E:Env) (L:List Oper) (vs:List Value):Env:=⟨pI (fun _=>true) 0 L vs E.l,E.j⟩
def vq (E:Env) (L:List Oper) (vs:List Value) (S:Nat→Bool):Env:=⟨pI S 0 L vs E.l,E.j⟩
def yw (L:List Oper) (i:Nat):List Nat:=match L[i]? with | some o=>dw o | none=>[]
/-- the environment in which what operation i waits for has been done -/
def om (E:Env) (L:List Oper) (vs:List Value) (i:Nat):Env:=vq E L vs (fun j=>(yw L i).contains j)

theorem iI (d:Nat) (v:Value) (l:List (Nat × Value)) (j:Nat→Value) (t:Nat):fU ((d,v) :: l) j t=if d=t then v else fU l j t:=by
  show (match Nat.beq d t with | true=>v | false=>fU l j t)=_
  by_cases h:d=t
  · subst h;simp
  · rw [iw h,if_neg h]

/-- slots whose writers have all been done read the same in both -/
theorem vn {E:Env} {S:Nat→Bool} {t:Nat}:∀ (L:List Oper) (vs:List Value) (k:Nat),(∀ j o,L[j]?=some o→o.dst=some t→S (k+j)=true) →
    fU (pI S k L vs E.l) E.j t=fU (pI (fun _=>true) k L vs E.l) E.j t
  | [],_,_,_=>by simp [pI]
  | _ :: _,[],_,_=>by simp [pI]
  | o :: r,v :: vs,k,h=>by
    have ih:=vn (E:=E) (S:=S) (t:=t) r vs (k+1) (fun j q hj hq=>by have:=h (j+1) q (by simpa using hj) hq;rwa [show k+(j+1)=k+1+j by omega] at this)
    have h0:=h 0 o rfl
    simp only [Nat.add_zero] at h0
    unfold pI
    cases hd:o.dst with
    | none =>
      cases hS:S k <;> exact ih
    | some d =>
      cases hS:S k with
      | true=>simp only [iI,ih]
      | false =>
        simp only [iI]
        have hne:d≠t:=fun e=>by have:=h0 (by rw [hd,e]);rw [hS] at this;cases this
        rw [if_neg hne];exact ih

/-- slots whose writers are marked alike read the same -/
theorem sD {E:Env} {S S':Nat→Bool} {t:Nat}:∀ (L:List Oper) (vs:List Value) (k:Nat),(∀ j o,L[j]?=some o→o.dst=some t→S (k+j)=S' (k+j)) →
    fU (pI S k L vs E.l) E.j t=fU (pI S' k L vs E.l) E.j t
  | [],_,_,_=>by simp [pI]
  | _ :: _,[],_,_=>by simp [pI]
  | o :: r,v :: vs,k,h=>by
    have ih:=sD (E:=E) (S:=S) (S':=S') (t:=t) r vs (k+1) (fun j q hj hq=>by have:=h (j+1) q (by simpa using hj) hq;rwa [show k+(j+1)=k+1+j by omega] at this)
    have h0:=h 0 o rfl
    simp only [Nat.add_zero] at h0
    unfold pI
    cases hd:o.dst with
    | none=>cases S k <;> cases S' k <;> exact ih
    | some d =>
      by_cases e:d=t
      · have:=h0 (by rw [hd,e]);rw [this]
        cases S' k <;> simp only [iI,ih]
      · cases S k <;> cases S' k <;> simp only [iI,ih,if_neg e]
def pq (S:Nat→Bool) (i:Nat):Nat→Bool:=fun j=>S j || Nat.beq i j
theorem qJ (S:Nat→Bool) (i:Nat):pq S i i=true:=by simp [pq]
theorem nu {S:Nat→Bool} {i j:Nat} (h:i≠j):pq S i j=S j:=by simp [pq,iw h]

/-- one operation more -/
theorem vm {E:Env} {S:Nat→Bool} {i d t:Nat} {v:Value}:∀ (L:List Oper) (vs vs':List Value) (k m:Nat) (o:Oper),i=k+m→L[m]?=some o→o.dst=some d→vs'[m]?=some v→vs.length=vs'.length →
    (∀ j,S j=true→k≤j→vs'[j - k]?=vs[j - k]?)→S i=false→(L.filterMap (·.dst)).Nodup →
    fU (pI (pq S i) k L vs' E.l) E.j t=if d=t then v else fU (pI S k L vs E.l) E.j t
  | [],_,_,_,_,_,_,h,_,_,_,_,_,_=>by simp at h
  | q :: r,[],vs',k,m,o,_,_,_,hv,hl,_,_,_=>by
    rw [List.eq_nil_of_length_eq_zero hl.symm] at hv;simp at hv
  | q :: r,u :: vs,[],k,m,o,_,_,_,hv,_,_,_,_=>by simp at hv
  | q :: r,u :: vs,u' :: vs',k,0,o,hi,ho,hd,hv,hl,hsame,hS,hnd=>by
    simp at ho hv;subst ho;subst hv
    simp only [Nat.add_zero] at hi;subst hi
    unfold pI
    simp only [qJ,hd,hS,iI]
    by_cases hdt:d=t
    · simp [hdt]
    · simp only [hdt,if_false]
      -- the rest reads the same
      have rest:∀ (r:List Oper) (vs vs':List Value) (k':Nat),i < k'→vs.length=vs'.length→(∀ j,S j=true→k'≤j→vs'[j - k']?=vs[j - k']?) →
          fU (pI (pq S i) k' r vs' E.l) E.j t=fU (pI S k' r vs E.l) E.j t:=by
        intro r
        induction r with
        | nil=>intro vs vs' k' _ _ _;simp [pI]
        | cons q r ih =>
          intro vs vs' k' hk hl hs
          match vs,vs',hl with
          | [],[],_=>simp [pI]
          | x :: vs,y :: vs',hl =>
            have ih':=ih vs vs' (k'+1) (by omega) (by simpa using hl) (fun j hj hjk=>by
              have:=hs j hj (by omega)
              rw [show j - k'=(j - (k'+1))+1 by omega] at this
              simpa using this)
            unfold pI
            rw [nu (show i≠k' by omega)]
            cases hSk:S k' with
            | false=>cases q.dst <;> exact ih'
            | true =>
              have e0:=hs k' hSk (Nat.le_refl _)
              simp at e0;subst e0
              cases q.dst with
              | none=>exact ih'
              | some d'=>simp only [iI,ih']
      exact rest r vs vs' (i+1) (by omega) (by simpa using hl) (fun j hj hjk=>by
        have:=hsame j hj (by omega)
        rw [show j - i=(j - (i+1))+1 by omega] at this
        simpa using this)
  | q :: r,u :: vs,u' :: vs',k,m+1,o,hi,ho,hd,hv,hl,hsame,hS,hnd=>by
    have hnd':(r.filterMap (·.dst)).Nodup:=by
      simp only [List.filterMap_cons] at hnd
      cases hq:q.dst with
      | none=>rw [hq] at hnd;exact hnd
      | some d'=>rw [hq] at hnd;exact (List.nodup_cons.1 hnd).2
    have ih:=vm (E:=E) (S:=S) (i:=i) (d:=d) (t:=t) (v:=v) r vs vs' (k+1) m o (by omega) (by simpa using ho) hd (by simpa using hv) (by simpa using hl)
      (fun j hj hjk=>by
        have:=hsame j hj (by omega)
        rw [show j - k=(j - (k+1))+1 by omega] at this
        simpa using this) hS hnd'
    have hne:i≠k:=by omega
    unfold pI
    rw [nu hne]
    cases hSk:S k with
    | false=>cases q.dst <;> exact ih
    | true =>
      have e0:=hsame k hSk (Nat.le_refl _)
      simp at e0;subst e0
      cases hq:q.dst with
      | none=>exact ih
      | some d' =>
        simp only [iI,ih]
        have hdd:d'≠d:=fun e=>by
          simp only [List.filterMap_cons,hq] at hnd
          refine (List.nodup_cons.1 hnd).1 ?_
          subst e
          exact List.mem_filterMap.2 ⟨o,List.mem_of_getElem? (by simpa using ho),hd⟩
        by_cases h1:d'=t
        · subst h1;simp [Ne.symm hdd]
        · simp [h1]

theorem ru:∀ l:List Nat,nodupB l=true→l.Nodup
  | [],_=>List.nodup_nil
  | x :: r,h=>by
    simp only [nodupB,Bool.and_eq_true,Bool.not_eq_true',List.contains_eq_mem,decide_eq_false_iff_not] at h
    exact List.nodup_cons.2 ⟨h.1,ru r h.2⟩
theorem oH {p:Nat→Oper→Bool}:∀ (k:Nat) (L:List Oper),oE p k L=true→∀ j o,L[j]?=some o→p (k+j) o=true
  | _,[],_,_,_,h=>by simp at h
  | k,q :: r,h,0,o,ho=>by
    simp only [oE,Bool.and_eq_true] at h
    simp at ho;subst ho;exact h.1
  | k,q :: r,h,j+1,o,ho=>by
    simp only [oE,Bool.and_eq_true] at h
    have:=oH (k+1) r h.2 j o (by simpa using ho)
    rwa [show k+1+j=k+(j+1) by omega] at this

/-- S is closed: what comes ahead of what is done is done -/
def Closed (L:List Oper) (S:Nat→Bool):Prop:=∀ i o,L[i]?=some o→S i=true→∀ d ∈ dw o,S d=true
theorem sn {L0:List Oper} {S:Nat→Bool} (hc:Closed L0 S):∀ (r:List Oper) (acc:List (List Nat)) (p:List Oper),L0=p++r→acc.length=p.length →
    (∀ i,S i=true→∀ j ∈ acc.getD i [],S j=true)→∀ i,S i=true→∀ j ∈ (nX r acc).getD i [],S j=true
  | [],acc,p,_,_,h=>h
  | o :: r,acc,p,hL,hlen,h=>by
    unfold nX
    refine sn hc r _ (p++[o]) (by simp [hL]) (by simp [hlen]) ?_
    intro i hi j hj
    rw [List.getD_eq_getElem?_getD] at hj
    by_cases hlt:i < acc.length
    · rw [List.getElem?_append_left hlt] at hj
      exact h i hi j (by rw [List.getD_eq_getElem?_getD];exact hj)
    · by_cases he:i=acc.length
      · subst he
        have ho:L0[acc.length]?=some o:=by rw [hL,hlen];simp
        rw [List.getElem?_append_right (Nat.le_refl _)] at hj
        simp only [Nat.sub_self,List.getElem?_cons_zero,Option.getD_some,List.mem_append,List.mem_flatMap] at hj
        rcases hj with hj | ⟨d,hd,hj⟩
        · exact hc _ o ho hi j hj
        · exact h d (hc _ o ho hi d hd) j hj
      · rw [List.getElem?_eq_none (by simp;omega)] at hj
        simp at hj
theorem p7 {L:List Oper} {S:Nat→Bool} (hc:Closed L S) {i j:Nat} (hi:S i=true) (hj:j ∈ uK L i):S j=true :=
  sn hc L [] [] rfl rfl (fun _ _ _ h=>by simp at h) i hi j hj
theorem rq (S:Nat→Bool):∀ W:List Nat,W.filter S ∈ uC W
  | []=>by simp [uC]
  | x :: r=>by
    have ih:=rq S r
    simp only [uC,List.mem_append,List.mem_map]
    cases h:S x with
    | true=>rw [List.filter_cons_of_pos h];exact .inr ⟨_,ih,rfl⟩
    | false=>rw [List.filter_cons_of_neg (by simp [h])];exact .inl ih

theorem sw {L:List Oper} {S:Nat→Bool} (hc:Closed L S) {i:Nat} {o:Oper} (ho:L[i]?=some o) (hd:∀ d ∈ dw o,S d=true):Closed L (pq S i):=fun k q hq hk d hdq=>by
  have mono:∀ x,S x=true→pq S i x=true:=fun x hx=>by simp [pq,hx]
  by_cases e:i=k
  · subst e;rw [ho] at hq;cases hq;exact mono d (hd d hdq)
  · rw [nu e] at hk;exact mono d (hc k q hq hk d hdq)

theorem BX {L:List Oper} {S:Nat→Bool} (hc:Closed L S) {W:List Nat} {i:Nat} {o:Oper} (ho:L[i]?=some o) (hi:S i=false) (hd:∀ d ∈ dw o,S d=true):xL L W i (W.filter S)=true:=by
  have hca:=sw hc ho hd
  simp only [xL,Bool.and_eq_true,Bool.not_eq_true',List.all_eq_true,Bool.or_eq_true,List.contains_eq_mem,decide_eq_true_eq,decide_eq_false_iff_not,List.mem_filter]
  refine ⟨(fun h=>by rw [hi] at h;cases h.2),fun w hw=>⟨⟨?_,?_⟩,?_⟩⟩
  · by_cases e:w=i
    · exact .inl (.inl (by subst e;simp))
    · by_cases h:w ∈ uK L i
      · have h2:=p7 hca (qJ S i) h
        rw [nu (Ne.symm e)] at h2;exact .inr ⟨hw,h2⟩
      · exact .inl (.inr h)
  · by_cases h:i ∈ uK L w
    · refine .inr (fun hh=>?_)
      have:=p7 hc hh.2 h
      rw [hi] at this;cases this
    · exact .inl h
  · by_cases h:w ∈ W∧S w=true
    · refine .inr (fun v hv=>?_)
      by_cases h3:v ∈ uK L w
      · exact .inr ⟨hv,p7 hc h.2 h3⟩
      · exact .inl h3
    · exact .inl h

/- ---- the steps -/
/-- what operation i, coming when D has been done, must bring about -/
def xt {G:Type} (L:List Oper) (vals:G→List Value) (HH:List Nat→G→List aC) (W:List Nat) (i:Nat) (D:List Nat) (g:G):b7
  | .normal,E',s'=>∃ g',(match (L[i]?).bind (·.dst) with | some d=>some (E'.get d)=(vals g')[i]? | none=>True)∧(vals g').length=L.length ∧
      (∀ j,j < L.length→j≠i→(uK L j).contains i=false→(vals g')[j]?=(vals g)[j]?)∧s'.Ok∧Holds s' (HH (W.filter (fun w=>D.contains w || Nat.beq i w)) g')
  | _,_,_=>False
def vQ {G:Type} (P:Program) (n:Nat) (ar:Array Oper) (E:Env) (vals:G→List Value) (HH:List Nat→G→List aC) (W:List Nat) (i:Nat) (D:List Nat):Prop :=
  ∀ g,WI P n ⟨ar,ar.toList.take (i+1)⟩ i (xt ar.toList vals HH W i D g) (om E ar.toList (vals g) i) (HH D g)
def tO {α:Type} (p:α→Prop):List α→Prop
  | []=>True
  | x :: r=>p x∧tO p r
theorem uO {α:Type} {p:α→Prop}:∀ {l:List α},tO p l→∀ x ∈ l,p x
  | _ :: _,⟨h,_⟩,_,.head _=>h
  | _ :: _,⟨_,h⟩,_,.tail _ hx=>uO h _ hx
def cG (pures:List Nat) (N:Nat):List Nat:=(List.range N).filter (fun i=>!pures.contains i)
/-- the obligations: which operation, at which stage -/
def DN (L:List Oper) (W pures:List Nat):List (Nat × List Nat):=(cG pures L.length).flatMap (fun i=>((uC W).filter (xL L W i)).map (fun D=>(i,D)))
/-- what only computes, over the values -/
def sM (T:qD) (ar:Array Oper) (E:Env) (i:Nat):Option Value :=
  match ar.toList[i]? with
  | some o=>match n3 ar E o with
    | true=>re T E o
    | false=>some undef
  | none=>none

theorem ox:∀ (l:List Bool) (i:Nat),l[i]?=some false→(l.set i true).countP (fun b=>!b)+1=l.countP (fun b=>!b)
  | [],_,h=>by simp at h
  | b :: r,0,h=>by simp at h;subst h;simp
  | b :: r,i+1,h=>by
    have ih:=ox r i (by simpa using h)
    simp only [List.set_cons_succ,List.countP_cons];omega

theorem y6 {ar:Array Oper} {o:Oper} {x:Nat} (h:Operand.tmp x ∈ o.op.operands):x ∈ o.looksAt ar:=List.mem_append_left _ (List.mem_filterMap.2 ⟨.tmp x,by simpa using h,rfl⟩)

section
variable {P:Program} {n:Nat} {Q:b7} {E:Env} {H:List aC}

theorem pL {o:Oper} {a a':Act} {Kt:Act→World→Prop} {Qt:Exit→Act→World→Prop} {Qs:b7} (hK:∀ v w1,Qa n Qs .normal (a'.put o.dst v) w1→Kt (a.put o.dst v) w1) (hQs:∀ e E s,e≠.normal→¬ Qs e E s)
    {r:Result Next} (h:o.upon P a' (Qa n Qs .normal) (Qa n Qs) r):o.upon P a Kt Qt r:=by
  have hno:∀ e a w,e≠.normal→¬ Qa n Qs e a w:=fun e a w he ⟨E,s,_,_,hq⟩=>hQs e E s he hq
  cases r with
  | ok nx w' =>
    cases nx <;> simp only [Oper.upon] at h ⊢
    case value v=>exact hK v w' h
    case skip=>exact hK _ w' h
    case defer d =>
      obtain ⟨E,s,ag,_⟩:=h
      have:=ag.defers
      cases hd:o.dst <;> rw [hd] at this <;> simp [Act.put] at this
    case enter f args =>
      refine Calls.mono h fun e w'' he=>?_
      cases e with
      | returned v=>exact hK v w'' he
      | panicked c=>exact (hno _ _ _ (by simp) he).elim
      | outgrown=>obtain ⟨a1,w1,hq⟩:=he;exact (hno _ _ _ (by simp) hq).elim
    case row row args=>exact Rows.mono h fun v w'' he=>hK v w'' he
  | halt x w' =>
    cases x <;> simp only [Oper.upon] at h ⊢
    case panic v=>exact (hno _ _ _ (by simp) h).elim

theorem vI {G:Type} {L:List Oper} {vals:G→List Value} {HH:List Nat→G→List aC} {W:List Nat} {i:Nat} {D:List Nat} {g:G}:∀ e E s,e≠.normal→¬ xt L vals HH W i D g e E s:=fun e E s he h=>by
  cases e <;> first | exact he rfl | exact h

structure tP {G:Type} (P:Program) (n:Nat) (L:List Oper) (E:Env) (vals:G→List Value) (HH:List Nat→G→List aC) (W:List Nat) (S:Nat→Bool) (a:Act) (w:World) (g:G) (s:St):Prop where
  ew:s.w=w
  ok:s.Ok
  hs:Holds s (HH (W.filter S) g)
  cl:Closed L S
  ag:Ag n (vq E L (vals g) S) a

theorem xX (L:List Oper) (vs:List Value):vq E L vs (fun _=>false)=E:=by
  have:∀ (L:List Oper) (vs:List Value) k,pI (fun _=>false) k L vs E.l=E.l:=by
    intro L
    induction L with
    | nil=>intro vs k;simp [pI]
    | cons o r ih=>intro vs k;cases vs with
      | nil=>simp [pI]
      | cons v vs=>unfold pI;exact ih vs (k+1)
  unfold vq;rw [this]

theorem pG {E:Env} {S:Nat→Bool} {i t:Nat}:∀ (L:List Oper) (vs vs':List Value) (k:Nat),(∀ m o,i=k+m→L[m]?=some o→o.dst=none)→vs.length=vs'.length →
    (∀ j,S j=true→k≤j→vs'[j - k]?=vs[j - k]?)→fU (pI (pq S i) k L vs' E.l) E.j t=fU (pI S k L vs E.l) E.j t
  | [],_,_,_,_,_,_=>by simp [pI]
  | _ :: _,[],[],_,_,_,_=>by simp [pI]
  | _ :: _,[],_ :: _,_,_,hl,_=>by simp at hl
  | _ :: _,_ :: _,[],_,_,hl,_=>by simp at hl
  | q :: r,u :: vs,u' :: vs',k,hn,hl,hs=>by
    have ih:=pG (E:=E) (S:=S) (i:=i) (t:=t) r vs vs' (k+1) (fun m o hm ho=>hn (m+1) o (by omega) (by simpa using ho)) (by simpa using hl) (fun j hj hjk=>by
      have:=hs j hj (by omega)
      rw [show j - k=(j - (k+1))+1 by omega] at this
      simpa using this)
    unfold pI
    by_cases e:i=k
    · have:=hn 0 q (by omega) rfl
      rw [this]
      cases pq S i k <;> cases S k <;> exact ih
    · rw [nu e]
      cases hSk:S k with
      | false=>cases q.dst <;> exact ih
      | true =>
        have e0:=hs k hSk (Nat.le_refl _)
        simp at e0;subst e0
        cases q.dst with
        | none=>exact ih
        | some d'=>simp only [iI,ih]

structure vN (n:Nat) (ar:Array Oper):Prop where
  nd:(ar.toList.filterMap (·.dst)).Nodup
  ops:∀ i o,ar.toList[i]?=some o→okO n o.dst=true∧wl o=true∧(∀ d ∈ dw o,d < i)∧∀ t ∈ o.looksAt ar,∀ j q,ar.toList[j]?=some q→q.dst=some t→j ∈ dw o ∨ i ∈ dw q
theorem u5 {ar:Array Oper} (chk:oz n ar=true):vN n ar:=by
  unfold oz at chk
  rw [Bool.and_eq_true] at chk
  refine ⟨ru _ chk.1,fun i o ho=>?_⟩
  have:=oH 0 _ chk.2 i o ho
  simp only [Nat.zero_add,Bool.and_eq_true,List.all_eq_true] at this
  refine ⟨this.1.1.1,this.1.1.2,fun d hd=>(by have:=this.1.2 d hd;simpa [Nat.blt_eq] using this),fun t ht' j q hq hd=>?_⟩
  have:=oH 0 _ (this.2 t ht') j q hq
  simp only [Nat.zero_add,Bool.or_eq_true,Bool.not_eq_true',beq_eq_false_iff_ne,List.contains_eq_mem,decide_eq_true_eq] at this
  rcases this with h | h | h
  · exact absurd hd h
  · exact .inl h
  · exact .inr h

theorem xm {G:Type} {ar:Array Oper} {vals:G→List Value} {S:Nat→Bool} {a:Act} {g g':G} {i:Nat} {o:Oper} {v:Value} (dok:vN n ar) (ho:ar.toList[i]?=some o) (hi:S i=false) (ag:Ag n (vq E ar.toList (vals g) S) a)
    (hl:(vals g).length=(vals g').length) (hv:∀ d,o.dst=some d→(vals g')[i]?=some v) (hsame:∀ j,S j=true→(vals g')[j]?=(vals g)[j]?):Ag n (vq E ar.toList (vals g') (pq S i)) (a.put o.dst v):=by
  obtain ⟨hok,_,_,_⟩:=dok.ops i o ho
  have hp:=ag.putO hok v
  refine hp.same fun t=>?_
  cases hd:o.dst with
  | none =>
    exact pG ar.toList (vals g) (vals g') 0 (fun m q hm hq=>by
      have:m=i:=by omega
      subst this;rw [ho] at hq;cases hq;exact hd) hl (fun j hj _=>by simpa using hsame j hj)
  | some d =>
    show fU _ _ t=(Env.put _ d v).get t
    rw [Env.get_put]
    exact vm ar.toList (vals g) (vals g') 0 i o (by omega) ho hd (hv d hd) hl (fun j hj _=>by simpa using hsame j hj) hi dok.nd

theorem xE {G:Type} {ar:Array Oper} {vals:G→List Value} {HH:List Nat→G→List aC} {W pures:List Nat} {T:qD} (ht:T.ok P=true) (dok:vN n ar) (hWp:W.all (fun w=>!pures.contains w)=true)
    (hlen:∀ g,(vals g).length=ar.toList.length) (hp:∀ g,pures.map (fun i=>sM T ar (om E ar.toList (vals g) i) i)=pures.map (fun i=>(vals g)[i]?))
    (steps:tO (fun p=>vQ P n ar E vals HH W p.1 p.2) (DN ar.toList W pures)) {S:Nat→Bool} {a:Act} {w:World} {g:G} {s:St} (st:tP P n ar.toList E vals HH W S a w g s) {i:Nat} {o:Oper} (ho:ar.toList[i]?=some o) (hi:S i=false) (hd:∀ d ∈ dw o,S d=true)
    {K:Act→World→Prop} {Qt:Exit→Act→World→Prop} (hK:∀ a' w' g' s',tP P n ar.toList E vals HH W (pq S i) a' w' g' s'→K a' w'):wpOp P ar Qt i K a w:=by
  obtain ⟨ew,ok,hs,cl,ag⟩:=st
  obtain ⟨hok,hsel,hdlt,hlook⟩:=dok.ops i o ho
  have hoar:ar[i]?=some o:=by simpa using ho
  have hdi:yw ar.toList i=dw o:=by unfold yw;rw [ho]
  have hget:∀ t ∈ o.looksAt ar,(vq E ar.toList (vals g) S).get t=(om E ar.toList (vals g) i).get t:=fun t htl =>
    sD ar.toList (vals g) 0 (fun j q hq hqd=>by
      rw [Nat.zero_add,hdi]
      rcases hlook t htl j q hq hqd with hj | hj
      · rw [hd j hj];simpa using hj
      · have hSj:S j=false:=by
          cases e:S j with
          | false=>rfl
          | true=>have:=cl j q hq e i hj;rw [hi] at this;cases this
        rw [hSj]
        cases e:(dw o).contains j with
        | false=>rfl
        | true=>have:=hd j (by simpa using e);rw [hSj] at this;cases this)
  have hexec:execOp a.eval o=execOp (om E ar.toList (vals g) i).ev o:=execOp_congr o (fun cs b e=>by unfold wl at hsel;rw [e] at hsel;cases hsel) (fun x hx=>by
    rw [ag.ev]
    cases x with
    | tmp t=>exact hget t (y6 hx)
    | _=>rfl)
  have hwant:Region.wanted o (yielded ar a.tmps)=n3 ar (om E ar.toList (vals g) i) o:=by
    rw [ln ag]
    obtain ⟨dst,op,type,pos,after,guard⟩:=o
    unfold n3
    cases guard with
    | none=>rfl
    | some gd =>
      obtain ⟨j,want⟩:=gd
      simp only []
      cases hdj:(ar[j]?).bind (·.dst) with
      | none=>rfl
      | some t =>
        simp only []
        rw [hget t (List.mem_append_right _ (by simp [hdj]))]
  have hclA:=sw cl ho hd
  have hilt:i < ar.toList.length:=(List.getElem?_eq_some_iff.1 ho).1
  unfold wpOp
  rw [hoar]
  simp only []
  cases hpi:pures.contains i with
  | true =>
    have hmem:i ∈ pures:=by simpa using hpi
    have hpv:sM T ar (om E ar.toList (vals g) i) i=(vals g)[i]?:=List.map_inj_left.1 (hp g) i hmem
    have hiW:i ∉ W:=fun h=>by have:=List.all_eq_true.1 hWp i h;rw [hpi] at this;cases this
    have hcur:W.filter (pq S i)=W.filter S:=List.filter_congr fun w hw=>nu (fun e=>hiW (e ▸ hw))
    obtain ⟨v,hv⟩:∃ v,(vals g)[i]?=some v:=⟨_,List.getElem?_eq_getElem (by rw [hlen];exact hilt)⟩
    rw [hv] at hpv
    unfold sM at hpv
    rw [ho] at hpv
    simp only [] at hpv
    have next:K (a.put o.dst v) w:=hK _ _ g s ⟨ew,ok,by rw [hcur];exact hs,hclA,xm dok ho hi ag rfl (fun _ _=>hv) (fun _ _=>rfl)⟩
    rw [hwant]
    split
    · rename_i hw
      rw [hw] at hpv
      refine .inl ?_
      unfold Oper.wp
      rw [hexec,nL ht hpv]
      exact next
    · rename_i hw
      rw [Bool.not_eq_true] at hw
      rw [hw] at hpv
      cases hpv
      exact next
  | false =>
    have hstep:vQ P n ar E vals HH W i (W.filter S):=uO steps (i,W.filter S) (by
      unfold DN
      refine List.mem_flatMap.2 ⟨i,List.mem_filter.2 ⟨List.mem_range.2 hilt,by rw [hpi];rfl⟩,?_⟩
      exact List.mem_map.2 ⟨_,List.mem_filter.2 ⟨rq S W,BX cl ho hi hd⟩,rfl⟩)
    -- a frame in which all is done
    let a':Act:={ tmps:=Array.ofFn (fun t:Fin n=>(om E ar.toList (vals g) i).get t.1),defers:=[] }
    have hbig:∀ t,n≤t→(om E ar.toList (vals g) i).get t=undef:=fun t htn=>by
      have h1:(vq E ar.toList (vals g) S).get t=(om E ar.toList (vals g) i).get t:=sD ar.toList (vals g) 0 (fun j q hq hqd=>by
        have:=(dok.ops j q hq).1
        rw [hqd] at this
        have:t < n:=by simpa [okO,Nat.blt_eq] using this
        omega)
      rw [← h1,← ag.get t,Array.getD_eq_getD_getElem?,Array.getElem?_eq_none (by rw [ag.size];exact htn)]
      rfl
    have ag':Ag n (om E ar.toList (vals g) i) a':=by
      refine ⟨by simp [a'],rfl,fun t=>?_⟩
      by_cases htn:t < n
      · simp [a',Array.getD_eq_getD_getElem?,htn]
      · rw [hbig t (by omega)]
        simp [a',Array.getD_eq_getD_getElem?,Array.getElem?_eq_none (show (Array.ofFn (fun t:Fin n=>(om E ar.toList (vals g) i).get t.1)).size≤t by simp;omega)]
    have hrun:=hstep g s ok hs a' ag'
    have hone:(ar.toList.take (i+1)).drop i=[o]:=by
      rw [List.take_succ_eq_append_getElem hilt,List.drop_append_of_le_length (by rw [List.length_take];omega),List.drop_of_length_le (by rw [List.length_take];omega),(List.getElem?_eq_some_iff.1 ho).2];rfl
    simp only [hone] at hrun
    have hKK:∀ v w1,Qa n (xt ar.toList vals HH W i (W.filter S) g) .normal (a'.put o.dst v) w1→K (a.put o.dst v) w1:=by
      rintro v w1 ⟨E1,s1,ag1,rfl,g',hval,hlen',hkeep,ok1,hs1⟩
      have hcur:W.filter (pq S i)=W.filter (fun w=>(W.filter S).contains w || Nat.beq i w):=List.filter_congr fun w hw=>by
        have:(W.filter S).contains w=S w:=by
          cases hSw:S w with
          | true=>simp [hw,hSw]
          | false=>simp [hSw]
        rw [this];rfl
      refine hK _ _ g' s1 ⟨rfl,ok1,by rw [hcur];exact hs1,hclA,xm dok ho hi ag (by rw [hlen,hlen']) (fun d hdd=>?_) (fun j hj=>?_)⟩
      · rw [ho] at hval
        simp only [Option.bind_some,hdd] at hval
        rw [← hval,← ag1.get d,hdd]
        have hdn:d < n:=by rw [hdd] at hok;simpa [okO,Nat.blt_eq] using hok
        simp [Act.put,Array.getD_eq_getD_getElem?,a',hdn]
      · by_cases hjl:j < ar.toList.length
        · refine hkeep j hjl (fun e=>by subst e;rw [hi] at hj;cases hj) ?_
          cases hca:(uK ar.toList j).contains i with
          | false=>rfl
          | true =>
            have:=p7 cl hj (show i ∈ uK ar.toList j by simpa using hca)
            rw [hi] at this;cases this
        · rw [List.getElem?_eq_none (by omega),List.getElem?_eq_none (by rw [hlen];omega)]
    have hno:¬ LetsOut (Qa n (xt ar.toList vals HH W i (W.filter S) g)):=by
      rintro ⟨a1,w1,E1,s1,_,_,hq⟩
      exact vI _ _ _ (by simp) hq
    unfold wpList at hrun
    rw [ln ag',ew] at hrun
    rw [hwant]
    split
    · rename_i hw
      rw [if_pos hw] at hrun
      refine .inl ?_
      have h1:=hrun.resolve_right (fun h=>hno h.2)
      unfold Oper.wp at h1 ⊢
      have he:a'.eval=(om E ar.toList (vals g) i).ev:=funext ag'.ev
      rw [he] at h1
      rw [hexec]
      exact pL hKK (fun e E s he h=>vI e E s he h) h1
    · rename_i hw
      rw [if_neg hw] at hrun
      exact hKK _ _ hrun

theorem Cl {G:Type} {ar:Array Oper} {id:Nat} (vals:G→List Value) (HH:List Nat→G→List aC) (W pures:List Nat) (T:qD) (hmix:P.follows .mixedOrders=true) (ht:T.ok P=true) (chk:oz n ar=true)
    (hWp:W.all (fun w=>!pures.contains w && Nat.blt w ar.toList.length)=true) (hlen:∀ g,(vals g).length=ar.toList.length) (hp:∀ g,pures.map (fun i=>sM T ar (om E ar.toList (vals g) i) i)=pures.map (fun i=>(vals g)[i]?)) (g0:G) (h0:gI H (HH [] g0))
    (steps:tO (fun p=>vQ P n ar E vals HH W p.1 p.2) (DN ar.toList W pures)) (fin:∀ g,QH Q .normal (Al E ar.toList (vals g)) (HH W g)):WH P n (.region id ar true) Q E H:=by
  intro s0 ok0 hs0 a0 ag0
  obtain ⟨s1,ew1,ok1,hs1⟩:=h0 s0 ok0 hs0
  rw [← ew1]
  have dok:=u5 chk
  have hWp1:W.all (fun w=>!pures.contains w)=true:=List.all_eq_true.2 fun w hw=>by
    have:=List.all_eq_true.1 hWp w hw;rw [Bool.and_eq_true] at this;exact this.1
  have hWlt:∀ w ∈ W,w < ar.toList.length:=fun w hw=>by
    have:=List.all_eq_true.1 hWp w hw;rw [Bool.and_eq_true] at this;simpa [Nat.blt_eq] using this.2
  have hsz:ar.toList.length=ar.size:=Array.length_toList
  have fdone:∀ (S:Nat→Bool) a w g s,(∀ i,i < ar.size→S i=true)→tP P n ar.toList E vals HH W S a w g s→Qa n Q .normal a w:=by
    intro S a w g s hall st
    obtain ⟨rfl,ok,hs,cl,ag⟩:=st
    have hcur:W.filter S=W:=List.filter_eq_self.2 fun w hw=>hall w (by rw [← hsz];exact hWlt w hw)
    rw [hcur] at hs
    refine (fin g).qa ok hs (ag.same fun t=>(vn ar.toList (vals g) 0 (fun j q hq _=>?_)).symm)
    rw [Nat.zero_add]
    exact hall j (by rw [← hsz];exact (List.getElem?_eq_some_iff.1 hq).1)
  have main:∀ (fuel:Nat) (listed:Array Bool) (a:Act) (w:World) (g:G) (s:St),listed.size=ar.size→listed.toList.countP (fun b=>!b)≤fuel →
      tP P n ar.toList E vals HH W (fun i=>listed.getD i false) a w g s→wpAny P .any ar (Qa n Q) fuel listed a w:=by
    intro fuel
    induction fuel with
    | zero =>
      intro listed a w g s hsl hcnt st
      have hall:∀ i,i < ar.size→listed.getD i false=true:=fun i hi=>by
        have:∀ b ∈ listed.toList,b=true:=by
          intro b hb
          have h0:listed.toList.countP (fun b=>!b)=0:=by omega
          have:=List.countP_eq_zero.1 h0 b hb
          simpa using this
        rw [Array.getD_eq_getD_getElem?,Array.getElem?_eq_getElem (by omega)]
        exact this _ (by simp)
      refine ⟨?_,fdone _ a w g s hall st⟩
      unfold Region.ready
      refine List.filter_eq_nil_iff.2 fun i hi=>?_
      have hi':=List.mem_range.1 hi
      have:=hall i hi'
      rw [Array.getD_eq_getD_getElem?,Array.getElem?_eq_getElem (by omega)] at this
      simp at this
      rw [Array.getD_eq_getD_getElem?,Array.getElem?_eq_getElem (by omega)]
      simp [this]
    | succ fuel ih =>
      intro listed a w g s hsl hcnt st
      refine ⟨fun hnil=>?_,fun i hi=>?_⟩
      · -- nothing is ready: then all has been done
        refine fdone _ a w g s (fun i hi=>?_) st
        induction i using Nat.strongRecOn with
        | _ i ihi =>
          cases hc:listed.getD i false with
          | true=>rfl
          | false =>
            exfalso
            have hilt:i < ar.toList.length:=by omega
            have hmem:i ∈ Region.ready .any ar listed:=by
              rw [mem_ready]
              refine ⟨?_,ar[i],by simp [hi],fun e he hb=>?_⟩
              · rw [Array.getD_eq_getD_getElem?,Array.getElem?_eq_getElem (by omega)] at hc ⊢
                exact hc
              · have hlt:=(dok.ops i ar[i] (by simp [hi])).2.2.1 e.on (by
                  unfold dw
                  exact List.mem_map.2 ⟨e,List.mem_filter.2 ⟨by simpa using he,hb⟩,rfl⟩)
                exact ihi e.on hlt (by omega)
            rw [hnil] at hmem;cases hmem
      · obtain ⟨h1,o,ho,hdeps⟩:=mem_ready.1 hi
        have hi':i < ar.size:=(Array.getElem?_eq_some_iff.1 ho).1
        have hfalse:listed.getD i false=false:=by
          rw [Array.getD_eq_getD_getElem?,Array.getElem?_eq_getElem (by omega)] at h1 ⊢
          exact h1
        refine xE ht dok hWp1 hlen hp steps st (by simpa using ho) hfalse (fun d hd=>?_) (fun a' w' g' s' st'=>ih _ a' w' g' s' (by simpa using hsl) ?_ ?_)
        · unfold dw at hd
          obtain ⟨e,he,rfl⟩:=List.mem_map.1 hd
          obtain ⟨he1,he2⟩:=List.mem_filter.1 he
          exact hdeps e (by simpa using he1) he2
        · have hlf:listed.toList[i]?=some false:=by
            rw [Array.getElem?_toList]
            rw [Array.getD_eq_getD_getElem?] at hfalse
            rw [Array.getElem?_eq_getElem (by omega)] at hfalse ⊢
            simpa using hfalse
          have:=ox listed.toList i hlf
          rw [Array.toList_setIfInBounds]
          omega
        · have:(fun j=>(listed.setIfInBounds i true).getD j false)=pq (fun j=>listed.getD j false) i:=by
            funext j
            by_cases e:i=j
            · subst e
              rw [qJ]
              rw [Array.getD_eq_getD_getElem?,Array.getElem?_setIfInBounds]
              simp [show i < listed.size by omega]
            · rw [nu e,Array.getD_eq_getD_getElem?,Array.getElem?_setIfInBounds_ne e,Array.getD_eq_getD_getElem?]
          rw [this];exact st'
  refine wp_region_any hmix (main ar.size (Array.replicate ar.size false) a0 { s1.w with drawn:=s1.w.drawn+1 } g0 ⟨{ s1.w with drawn:=s1.w.drawn+1 },s1.fz⟩ (by simp) ?_ ?_)
  · exact Nat.le_trans List.countP_le_length (by simp)
  · have hS:(fun i=>(Array.replicate ar.size false).getD i false)=(fun _=>false):=by
      funext i
      rw [Array.getD_eq_getD_getElem?,Array.getElem?_replicate]
      split <;> rfl
    rw [hS]
    have hd:=Holds.same (w':={ s1.w with drawn:=s1.w.drawn+1 }) ok1 hs1 (Nat.le_refl _) rfl rfl rfl (fun _ _=>rfl)
    refine ⟨rfl,hd.1,?_,fun i o _ h=>(by cases h),by rw [xX];exact ag0⟩
    have:W.filter (fun _=>false)=[]:=by simp
    rw [this];exact hd.2
def xw (L:List Oper) (i:Nat) (E:Env):Option Value:=match (L[i]?).bind (·.dst) with | some d=>some (E.get d) | none=>none
def wD (L:List Oper) (i:Nat) (vs:List Value):Option Value:=match (L[i]?).bind (·.dst) with | some _=>vs[i]? | none=>none
def CK (L:List Oper) (i:Nat):List Nat:=(List.range L.length).filter (fun j=>!(Nat.beq j i) && !((uK L j).contains i))
def DF:List Value→Nat→Option Value
  | [],_=>none
  | v :: l,j=>match j with | 0=>some v | j+1=>DF l j
def Et:List Value→Nat→Option Value
  | [],_=>none
  | v :: l,j=>match j with | 0=>some v | j+1=>Et l j
theorem uo:∀ (l:List Value) (j:Nat),DF l j=l[j]?
  | [],j=>by simp [DF]
  | v :: l,0=>by simp [DF]
  | v :: l,j+1=>by simp [DF,uo l j]
theorem wj:∀ (l:List Value) (j:Nat),Et l j=l[j]?
  | [],j=>by simp [Et]
  | v :: l,0=>by simp [Et]
  | v :: l,j+1=>by simp [Et,wj l j]
def xQ (vs:List Value):List Nat→List (Option Value)
  | []=>[]
  | j :: l=>DF vs j :: xQ vs l
def xR (vs:List Value):List Nat→List (Option Value)
  | []=>[]
  | j :: l=>Et vs j :: xR vs l
theorem y4 {a b:List Value}:∀ {l:List Nat},xQ a l=xR b l→∀ j ∈ l,a[j]?=b[j]?
  | [],_,j,h=>by cases h
  | i :: l,h,j,hj=>by
    simp only [xQ,xR,List.cons.injEq,uo,wj] at h
    rcases List.mem_cons.1 hj with rfl | hj
    · exact h.1
    · exact y4 h.2 j hj

end
/- ---- items that flow between operations -/
theorem gI.ofPermH {A B:List aC} (h:∀ s,Holds s A→Holds s B):gI A B:=fun s ok hs=>⟨s,rfl,ok,h s hs⟩
abbrev Gh:=Nat→Nat→Value
def upd (γ:Gh) (i:Nat) (x:Nat→Value):Gh:=fun k=>match Nat.beq k i with | true=>x | false=>γ k
def pE:aC:=pr (fun _=>True) (fun _ _ _ _=>trivial)
def CN (H:List aC) (j:Nat):aC:=match pick H j with | some x=>x | none=>pE
def zi:List aC→Nat→aC
  | [],_=>pE
  | x :: l,j=>match j with | 0=>x | j+1=>zi l j
/-- What flows: h items that stand ahead; what each operation takes, uses and brings. -/
structure kn where
  h:Nat
  np:List Nat
  cons:List (Nat × List (Nat × Nat))
  bor:List (Nat × List (Nat × Nat))
  use:List (Nat × List (Nat × Nat))
def kT (l:List (Nat × List (Nat × Nat))) (i:Nat):List (Nat × Nat):=match l with
  | []=>[]
  | p :: r=>match Nat.beq p.1 i with | true=>p.2 | false=>kT r i
def Dz (a b:Nat × Nat):Bool:=Nat.beq a.1 b.1 && Nat.beq a.2 b.2
def rL (l:List (Nat × Nat)) (a:Nat × Nat):Bool:=l.any (Dz a)
theorem nb {l:List (Nat × Nat)} {a:Nat × Nat}:rL l a=true ↔ a ∈ l:=by
  unfold rL
  rw [List.any_eq_true]
  constructor
  · rintro ⟨b,hb,e⟩
    unfold Dz at e
    rw [Bool.and_eq_true] at e
    have:a=b:=Prod.ext (Nat.eq_of_beq_eq_true e.1) (Nat.eq_of_beq_eq_true e.2)
    rw [this];exact hb
  · intro h;exact ⟨a,h,by unfold Dz;simp⟩
def kn.ids (f:kn):List (Nat × Nat):=(List.range f.h).map (fun j=>(0,j))++(List.range f.np.length).flatMap (fun i=>(List.range (f.np.getD i 0)).map (fun j=>(i+1,j)))
def kn.there (f:kn) (D:List Nat) (a:Nat × Nat):Bool:=(match a.1 with | 0=>true | i+1=>D.contains i) && !(D.any (fun k=>rL (kT f.cons k) a))
def kn.its (f:kn) (D:List Nat):List (Nat × Nat):=f.ids.filter (f.there D)
def vk (H:List aC) (pr:Nat→Gh→List aC) (γ:Gh) (a:Nat × Nat):aC:=match a.1 with | 0=>CN H a.2 | i+1=>zi (pr i γ) a.2
def q8 (f:kn) (L:List Oper) (W:List Nat):Bool :=
  W.all (fun i=>nodupB2 (kT f.cons i++kT f.bor i) && (kT f.cons i++kT f.bor i++kT f.use i).all (fun a=>rL f.ids a && (match a.1 with | 0=>true | o+1=>W.contains o && (uK L i).contains o && !(Nat.beq o i)) &&
    W.all (fun k=>Nat.beq k i || !(rL (kT f.cons k) a) || (uK L k).contains i)) && (kT f.cons i).all (fun a=>!(rL (kT f.use i) a)))
where
  nodupB2:List (Nat × Nat)→Bool
    | []=>true
    | x :: r=>!(rL r x) && nodupB2 r
theorem ql:∀ {l:List (Nat × Nat)},q8.nodupB2 l=true→l.Nodup
  | [],_=>List.nodup_nil
  | x :: r,h=>by
    simp only [q8.nodupB2,Bool.and_eq_true,Bool.not_eq_true'] at h
    refine List.nodup_cons.2 ⟨fun hm=>?_,ql h.2⟩
    rw [nb.2 hm] at h;cases h.1
theorem xO (f:kn):f.ids.Nodup:=by
  unfold kn.ids
  have hr:∀ (c m:Nat),((List.range m).map (fun j=>(c,j))).Nodup:=fun c m=>List.Pairwise.map _ (fun a b hne e=>hne (by cases e;rfl)) List.nodup_range
  refine List.nodup_append.2 ⟨hr 0 f.h,?_,?_⟩
  · rw [List.flatMap_def]
    unfold List.Nodup
    rw [List.pairwise_flatten]
    refine ⟨fun l hl=>?_,?_⟩
    · obtain ⟨i,_,rfl⟩:=List.mem_map.1 hl
      exact hr _ _
    · rw [List.pairwise_map]
      refine List.Pairwise.imp (fun {a b} hne x hx y hy e=>?_) List.nodup_range
      obtain ⟨_,_,rfl⟩:=List.mem_map.1 hx
      obtain ⟨_,_,rfl⟩:=List.mem_map.1 hy
      cases e;exact hne rfl
  · intro x hx y hy e
    obtain ⟨_,_,rfl⟩:=List.mem_map.1 hx
    obtain ⟨_,_,h2⟩:=List.mem_flatMap.1 hy
    obtain ⟨_,_,rfl⟩:=List.mem_map.1 h2
    cases e

def pF (f:kn) (H:List aC) (pr:Nat→Gh→List aC) (D:List Nat) (γ:Gh):List aC:=(f.its D).map (vk H pr γ)++H.drop f.h
/-- what operation i must bring about, whatever stands beside -/
def Gr (L:List Oper) (vf:Gh→List Value) (pr:Nat→Gh→List aC) (i:Nat) (γ:Gh) (F:List aC):b7
  | .normal,E',s'=>∃ x:Nat→Value,xw L i E'=wD L i (vf (upd γ i x))∧s'.Ok∧Holds s' (pr i (upd γ i x)++F)
  | _,_,_=>False
def vO (P:Program) (n:Nat) (ar:Array Oper) (E:Env) (vf:Gh→List Value) (f:kn) (H:List aC) (pr:Nat→Gh→List aC) (i:Nat):Prop :=
  ∀ γ F,WI P n ⟨ar,ar.toList.take (i+1)⟩ i (Gr ar.toList vf pr i γ ((kT f.bor i).map (vk H pr γ)++F)) (om E ar.toList (vf γ) i) ((kT f.cons i++kT f.bor i++kT f.use i).map (vk H pr γ)++F)
theorem wx {α:Type} {p:α→Prop}:∀ {l:List α},(∀ x ∈ l,p x)→tO p l
  | [],_=>trivial
  | x :: l,h=>⟨h x (List.mem_cons_self ..),wx fun y hy=>h y (List.mem_cons_of_mem _ hy)⟩
theorem ww {α:Type} {p:α→Prop}:∀ {l:List α},tO p l→∀ x ∈ l,p x
  | _ :: _,h,x,hx=>by
    rcases List.mem_cons.1 hx with rfl | hx
    · exact h.1
    · exact ww h.2 x hx
section
variable {P:Program} {n:Nat} {Q:b7} {E:Env} {H:List aC}
theorem WI.post1 {ops:pp} {i:Nat} {o:Oper} {Q':b7} (h1:ops.l.drop i=[o]) (hno:∀ e E s,e≠.normal→¬ Q e E s) (h:WI P n ops i Q E H) (hq:∀ E s,Q .normal E s→Q' .normal E s):WI P n ops i Q' E H:=fun s ok hs a ag=>by
  have h0:=h s ok hs a ag
  rw [h1] at h0 ⊢
  unfold wpList at h0 ⊢
  have hK:∀ v w1,Qa n Q .normal (a.put o.dst v) w1→Qa n Q' .normal (a.put o.dst v) w1:=fun v w1 ⟨E,s,ag,ew,h⟩=>⟨E,s,ag,ew,hq E s h⟩
  split
  · rename_i hw
    rw [if_pos hw] at h0
    refine .inl ?_
    have h2:=h0.resolve_right (fun h=>by
      obtain ⟨a1,w1,E1,s1,_,_,hq⟩:=h.2
      exact hno _ _ _ (by simp) hq)
    unfold Oper.wp at h2 ⊢
    exact pL (Qs:=Q) hK hno h2
  · rename_i hw
    rw [if_neg hw] at h0
    exact hK _ _ h0
theorem nD {f:kn} {D:List Nat} {a:Nat × Nat}:a ∈ f.its D ↔ a ∈ f.ids∧(∀ o,a.1=o+1→o ∈ D)∧∀ k ∈ D,a ∉ kT f.cons k:=by
  unfold kn.its kn.there
  rw [List.mem_filter,Bool.and_eq_true]
  refine and_congr_right fun _=>and_congr ?_ ?_
  · obtain ⟨x,y⟩:=a
    cases x with
    | zero=>simp
    | succ o=>simp
  · rw [Bool.not_eq_true',Bool.eq_false_iff,ne_eq,List.any_eq_true]
    constructor
    · intro h k hk hm;exact h ⟨k,hk,nb.2 hm⟩
    · rintro h ⟨k,hk,hm⟩;exact h k hk (nb.1 hm)
theorem tu (f:kn) (D:List Nat):(f.its D).Nodup:=List.Nodup.sublist List.filter_sublist (xO f)
theorem wo {l c:List (Nat × Nat)} (hl:l.Nodup) (hc:c.Nodup) (hs:∀ x ∈ c,x ∈ l):∃ R,l.Perm (c++R)∧R.Nodup∧∀ x,x ∈ R ↔ (x ∈ l∧x ∉ c):=by
  have hm:∀ x,x ∈ l.filter (fun x=>!(rL c x)) ↔ (x ∈ l∧x ∉ c):=fun x=>by
    rw [List.mem_filter,Bool.not_eq_true',Bool.eq_false_iff,ne_eq,nb]
  refine ⟨l.filter (fun x=>!(rL c x)),(List.perm_ext_iff_of_nodup hl ?_).2 fun x=>?_,List.Nodup.sublist List.filter_sublist hl,hm⟩
  · refine List.nodup_append.2 ⟨hc,List.Nodup.sublist List.filter_sublist hl,fun x hx y hy e=>?_⟩
    subst e
    exact ((hm _).1 hy).2 hx
  · rw [List.mem_append,hm]
    constructor
    · intro h
      by_cases hx:x ∈ c
      · exact .inl hx
      · exact .inr ⟨h,hx⟩
    · rintro (h | h)
      · exact hs x h
      · exact h.1
theorem C5 {s:St} {U:List aC} (hb:∀ x ∈ U,x.bs=[]) (hs:Holds s H) (hm:∀ x ∈ U,x ∈ H):Holds s (U++H):=by
  induction U with
  | nil=>exact hs
  | cons x U ih=>exact (ih (fun y h=>hb y (List.mem_cons_of_mem _ h)) (fun y h=>hm y (List.mem_cons_of_mem _ h))).consPr (hb x (List.mem_cons_self ..)) (hs.q x (hm x (List.mem_cons_self ..)))
theorem Cn {ar:Array Oper} {id:Nat} (f:kn) (vf:Gh→List Value) (pr:Nat→Gh→List aC) (Hf:Gh→List aC) (pures:List Nat) (T:qD) (hmix:P.follows .mixedOrders=true) (ht:T.ok P=true) (chk:oz n ar=true)
    (hlen:∀ g,(vf g).length=ar.toList.length) (hp:∀ g,pures.map (fun i=>sM T ar (om E ar.toList (vf g) i) i)=pures.map (fun i=>(vf g)[i]?))
    (hk:∀ i ∈ cG pures ar.toList.length,∀ g x,xQ (vf (upd g i x)) (CK ar.toList i)=xR (vf g) (CK ar.toList i))
    (hnp:∀ i ∈ cG pures ar.toList.length,∀ γ,Nat.beq (pr i γ).length (f.np.getD i 0)=true)
    (hpi:∀ i ∈ cG pures ar.toList.length,∀ o ∈ cG pures ar.toList.length,(Nat.beq o i || (uK ar.toList o).contains i)=false→∀ γ x,pr o (upd γ i x)=pr o γ) (hnp2:Nat.ble f.np.length ar.toList.length=true)
    (hfl:q8 f ar.toList (cG pures ar.toList.length)=true)
    (hpr:∀ i ∈ cG pures ar.toList.length,∀ γ:Gh,((kT f.use i).map (vk H pr γ)).all xP=true)
    (steps:tO (vO P n ar E vf f H pr) (cG pures ar.toList.length))
    (hH:Nat.ble f.h H.length=true) (hHf:∀ γ,pF f H pr (cG pures ar.toList.length) γ=Hf γ)
    (fin:∀ γ,QH Q .normal (Al E ar.toList (vf γ)) (Hf γ)):WH P n (.region id ar true) Q E H:=by
  have hWp:(cG pures ar.toList.length).all (fun w=>!pures.contains w && Nat.blt w ar.toList.length)=true:=by
    rw [List.all_eq_true]
    intro w hw
    obtain ⟨h1,h2⟩:=List.mem_filter.1 hw
    rw [h2,Bool.true_and]
    rw [Nat.blt_eq];exact List.mem_range.1 h1
  refine Cl (G:=Gh) vf (fun D γ=>pF f H pr D γ) (cG pures ar.toList.length) pures T hmix ht chk hWp hlen hp (fun _ _=>undef) ?_ ?_ (fun γ=>by have:=fin γ;rw [← hHf γ] at this;exact this)
  · -- at the start
    refine gI.ofPermH (fun s hs=>?_)
    have e:f.its []=(List.range f.h).map (fun j=>(0,j)):=by
      unfold kn.its kn.ids
      rw [List.filter_append]
      have h1:((List.range f.h).map (fun j=>((0:Nat),j))).filter (f.there [])=(List.range f.h).map (fun j=>(0,j)):=by
        refine List.filter_eq_self.2 fun a ha=>?_
        obtain ⟨j,_,rfl⟩:=List.mem_map.1 ha
        simp [kn.there]
      have h2:((List.range f.np.length).flatMap (fun i=>(List.range (f.np.getD i 0)).map (fun j=>(i+1,j)))).filter (f.there [])=[]:=by
        refine List.filter_eq_nil_iff.2 fun a ha=>?_
        obtain ⟨i,_,h⟩:=List.mem_flatMap.1 ha
        obtain ⟨j,_,rfl⟩:=List.mem_map.1 h
        simp [kn.there]
      rw [h1,h2,List.append_nil]
    show Holds s (pF f H pr [] _)
    unfold pF
    rw [e,List.map_map]
    have e2:(List.range f.h).map (vk H pr (fun _ _=>undef) ∘ fun j=>(0,j))=H.take f.h:=by
      have:∀ (H:List aC) (m:Nat),m≤H.length→(List.range m).map (fun j=>CN H j)=H.take m:=by
        intro H
        induction H with
        | nil => intro m hm; have : m = 0 := by simpa using hm
                 subst this;rfl
        | cons x H ih =>
          intro m hm
          cases m with
          | zero=>rfl
          | succ m =>
            rw [List.range_succ_eq_map,List.map_cons,List.map_map,List.take_succ_cons]
            congr 1
            exact ih m (by simpa using hm)
      exact this H f.h (Nat.le_of_ble_eq_true hH)
    rw [e2,List.take_append_drop];exact hs
  · refine wx fun p hp'=>?_
    obtain ⟨i,hi,h2⟩:=List.mem_flatMap.1 hp'
    obtain ⟨D,hD,rfl⟩:=List.mem_map.1 h2
    obtain ⟨hDs,hg⟩:=List.mem_filter.1 hD
    intro γ
    simp only
    -- what xL says
    simp only [xL,Bool.and_eq_true,Bool.not_eq_true',List.all_eq_true,Bool.or_eq_true,List.contains_eq_mem,decide_eq_true_eq,decide_eq_false_iff_not] at hg
    obtain ⟨hiD,hg⟩:=hg
    have hfi:=List.all_eq_true.1 hfl i hi
    simp only [Bool.and_eq_true,List.all_eq_true,Bool.or_eq_true,Bool.not_eq_true',List.mem_append] at hfi
    obtain ⟨⟨hnd,hav⟩,hdis⟩:=hfi
    have hsubD:∀ k ∈ D,k ∈ cG pures ar.toList.length:=by
      have:∀ (W D:List Nat),D ∈ uC W→∀ k ∈ D,k ∈ W:=by
        intro W
        induction W with
        | nil=>intro D hD k hk;simp [uC] at hD;subst hD;exact hk
        | cons w W ih =>
          intro D hD k hk
          simp only [uC,List.mem_append,List.mem_map] at hD
          rcases hD with hD | ⟨D',hD',rfl⟩
          · exact List.mem_cons_of_mem _ (ih D hD k hk)
          · rcases List.mem_cons.1 hk with rfl | hk
            · exact List.mem_cons_self ..
            · exact List.mem_cons_of_mem _ (ih D' hD' k hk)
      exact this _ D hDs
    have avail:∀ a,(a ∈ kT f.cons i ∨ a ∈ kT f.bor i) ∨ a ∈ kT f.use i→a ∈ f.its D:=fun a ha=>by
      obtain ⟨⟨h1,h2⟩,h3⟩:=hav a ha
      refine nD.2 ⟨nb.1 h1,fun o ho=>?_,fun k hk hm=>?_⟩
      · obtain ⟨x,y⟩:=a
        simp only at ho
        subst ho
        simp only [Bool.and_eq_true,Bool.not_eq_true',List.contains_eq_mem,decide_eq_true_eq] at h2
        obtain ⟨⟨h4,h5⟩,h6⟩:=h2
        have:=(hg o h4).1.1
        rcases this with (h7 | h7) | h7
        · rw [h6] at h7;cases h7
        · exact absurd h5 h7
        · exact h7
      · rcases h3 k (hsubD k hk) with (h4 | h4) | h4
        · exact hiD (by have:=Nat.eq_of_beq_eq_true h4;subst this;exact hk)
        · rw [nb.2 hm] at h4;cases h4
        · rcases (hg k (hsubD k hk)).1.2 with h5 | h5
          · exact h5 (by simpa using h4)
          · exact h5 hk
    have hcn:(kT f.cons i++kT f.bor i).Nodup:=ql hnd
    obtain ⟨R,psp,hRn,hRm⟩:=wo (tu f D) hcn (fun x hx=>avail x (.inl (List.mem_append.1 hx)))
    have start:gI (pF f H pr D γ) ((kT f.cons i++kT f.bor i++kT f.use i).map (vk H pr γ)++(R.map (vk H pr γ)++H.drop f.h)):=fun s ok hs=>by
      refine ⟨s,rfl,ok,?_⟩
      have hbs:∀ x ∈ (kT f.use i).map (vk H pr γ),x.bs=[]:=fun x hx=>xg (List.all_eq_true.1 (hpr i hi γ) x hx)
      have h1:=C5 hbs hs (fun x hx=>by
        obtain ⟨a,ha,rfl⟩:=List.mem_map.1 hx
        exact List.mem_append_left _ (List.mem_map.2 ⟨a,avail a (.inr ha),rfl⟩))
      refine h1.perm ?_
      unfold pF
      have h2:((f.its D).map (vk H pr γ)).Perm ((kT f.cons i++kT f.bor i++R).map (vk H pr γ)):=psp.map _
      rw [List.map_append (l₁:=kT f.cons i++kT f.bor i)] at h2
      rw [List.map_append (l₁:=kT f.cons i++kT f.bor i)]
      generalize kT f.cons i++kT f.bor i=CB at *
      refine (List.Perm.append_left _ (h2.append_right _)).trans ?_
      simp only [List.append_assoc]
      rw [← List.append_assoc,← List.append_assoc (CB.map _)]
      exact List.perm_append_comm.append_right _
    refine WI.ent start ?_
    have hilt:i < ar.toList.length:=List.mem_range.1 (List.mem_filter.1 hi).1
    have hone:((⟨ar,ar.toList.take (i+1)⟩:pp).l.drop i)=[ar.toList[i]]:=by
      show (ar.toList.take (i+1)).drop i=_
      rw [List.take_succ_eq_append_getElem hilt,List.drop_append_of_le_length (by rw [List.length_take];omega),List.drop_of_length_le (by rw [List.length_take];omega)];rfl
    refine WI.post1 hone (fun e E s he h=>by cases e <;> first | exact he rfl | exact h) (ww steps i hi γ _) ?_
    rintro E' s' ⟨x,hval,ok',hs'⟩
    refine ⟨upd γ i x,?_,by rw [hlen],?_,ok',?_⟩
    · unfold xw wD at hval
      split
      · rename_i d hd;rw [hd] at hval;exact hval
      · trivial
    · intro j hj hne hca
      exact y4 (hk i hi γ x) j (List.mem_filter.2 ⟨List.mem_range.2 hj,by rw [hca,iw hne];rfl⟩)
    · -- the heap behind
      have hu:upd γ i x i=x:=by unfold upd;rw [Nat.beq_refl]
      have hu2:∀ k,k≠i→upd γ i x k=γ k:=fun k hk=>by unfold upd;rw [iw hk]
      generalize hD2:(cG pures ar.toList.length).filter (fun w=>D.contains w || Nat.beq i w)=D2
      have memD2:∀ k,k ∈ D2 ↔ (k ∈ D ∨ k=i):=fun k=>by
        subst hD2
        rw [List.mem_filter]
        constructor
        · rintro ⟨_,h⟩
          rw [Bool.or_eq_true] at h
          rcases h with h | h
          · exact .inl (by simpa using h)
          · exact .inr (Nat.eq_of_beq_eq_true h).symm
        · rintro (h | rfl)
          · exact ⟨hsubD k h,by simp [h]⟩
          · exact ⟨hi,by simp⟩
      let N:List (Nat × Nat):=(List.range (f.np.getD i 0)).map (fun j=>(i+1,j))
      have hNn:N.Nodup:=List.Pairwise.map _ (fun a b hne e=>hne (by cases e;rfl)) List.nodup_range
      have hil:f.np.getD i 0≠0→i < f.np.length:=fun h=>by
        refine Classical.byContradiction fun c=>h ?_
        rw [List.getD_eq_getElem?_getD,List.getElem?_eq_none (by omega)];rfl
      -- nobody takes what i has just brought
      have hNc:∀ a ∈ N,∀ k ∈ D2,a ∉ kT f.cons k:=fun a ha k hk hm=>by
        obtain ⟨j,_,rfl⟩:=List.mem_map.1 ha
        have hkW:k ∈ cG pures ar.toList.length:=by
          rcases (memD2 k).1 hk with h | rfl
          · exact hsubD k h
          · exact hi
        have hfk:=List.all_eq_true.1 hfl k hkW
        simp only [Bool.and_eq_true,List.all_eq_true,Bool.or_eq_true,Bool.not_eq_true',List.mem_append] at hfk
        obtain ⟨⟨_,h2⟩,_⟩:=hfk.1.2 _ (.inl (.inl hm))
        simp only [Bool.and_eq_true,Bool.not_eq_true',List.contains_eq_mem,decide_eq_true_eq] at h2
        rcases (memD2 k).1 hk with h | rfl
        · rcases (hg k (hsubD k h)).1.2 with h5 | h5
          · exact h5 h2.1.2
          · exact h5 h
        · have:=h2.2;rw [Nat.beq_refl] at this;cases this
      have pf:(f.its D2).Perm (N++(kT f.bor i++R)):=by
        refine (List.perm_ext_iff_of_nodup (tu f D2) ?_).2 fun a=>?_
        · refine List.nodup_append.2 ⟨hNn,List.nodup_append.2 ⟨(List.nodup_append.1 hcn).2.1,hRn,fun a ha b hb e=>?_⟩,fun a ha b hb e=>?_⟩
          · subst e;exact ((hRm _).1 hb).2 (List.mem_append_right _ ha)
          · subst e
            obtain ⟨j,_,rfl⟩:=List.mem_map.1 ha
            rcases List.mem_append.1 hb with hb | hb
            · exact hiD ((nD.1 (avail _ (.inl (.inr hb)))).2.1 i rfl)
            · exact hiD ((nD.1 ((hRm _).1 hb).1).2.1 i rfl)
        · have hBR:a ∈ kT f.bor i++R ↔ (a ∈ f.its D∧a ∉ kT f.cons i):=by
            rw [List.mem_append,hRm,List.mem_append]
            constructor
            · rintro (h | ⟨h1,h2⟩)
              · exact ⟨avail a (.inl (.inr h)),fun hc=>(List.nodup_append.1 hcn).2.2 a hc a h rfl⟩
              · exact ⟨h1,fun hc=>h2 (.inl hc)⟩
            · rintro ⟨h1,h2⟩
              by_cases hb:a ∈ kT f.bor i
              · exact .inl hb
              · exact .inr ⟨h1,fun h=>h.elim h2 hb⟩
          rw [List.mem_append,nD,hBR,nD]
          constructor
          · rintro ⟨h1,h2,h3⟩
            by_cases ho:a.1=i+1
            · refine .inl ?_
              obtain ⟨x,y⟩:=a
              simp only at ho
              subst ho
              unfold kn.ids at h1
              rcases List.mem_append.1 h1 with h1 | h1
              · obtain ⟨_,_,e⟩:=List.mem_map.1 h1;cases e
              · obtain ⟨i',_,h4⟩:=List.mem_flatMap.1 h1
                obtain ⟨j,hj,e⟩:=List.mem_map.1 h4
                cases e
                exact List.mem_map.2 ⟨_,hj,rfl⟩
            · refine .inr ⟨⟨h1,fun o h4=>?_,fun k hk=>h3 k ((memD2 k).2 (.inl hk))⟩,?_⟩
              · rcases (memD2 o).1 (h2 o h4) with h5 | h5
                · exact h5
                · exact absurd (by rw [h4,h5]) ho
              · exact h3 i ((memD2 i).2 (.inr rfl))
          · rintro (h | ⟨⟨h1,h2,h3⟩,h4⟩)
            · obtain ⟨j,hj,rfl⟩:=List.mem_map.1 h
              refine ⟨?_,fun o ho=>?_,fun k hk=>hNc _ h k hk⟩
              · unfold kn.ids
                refine List.mem_append_right _ (List.mem_flatMap.2 ⟨i,List.mem_range.2 (hil (by have:=List.mem_range.1 hj;omega)),h⟩)
              · cases ho;exact (memD2 i).2 (.inr rfl)
            · refine ⟨h1,fun o ho=>(memD2 o).2 (.inl (h2 o ho)),fun k hk hm=>?_⟩
              rcases (memD2 k).1 hk with h5 | rfl
              · exact h3 k h5 hm
              · exact h4 hm
      have eN:N.map (vk H pr (upd γ i x))=pr i (upd γ i x):=by
        have hl:=Nat.eq_of_beq_eq_true (hnp i hi (upd γ i x))
        show List.map _ (List.map _ _)=_
        rw [List.map_map,← hl]
        have:∀ (l:List aC),(List.range l.length).map (fun j=>zi l j)=l:=by
          intro l
          induction l with
          | nil=>rfl
          | cons y l ih=>rw [List.length_cons,List.range_succ_eq_map,List.map_cons,List.map_map];congr 1
        exact this (pr i (upd γ i x))
      have eR:(kT f.bor i++R).map (vk H pr (upd γ i x))=(kT f.bor i).map (vk H pr γ)++R.map (vk H pr γ):=by
        rw [← List.map_append]
        refine List.map_congr_left fun a ha=>?_
        have hD':a ∈ f.its D:=by
          rcases List.mem_append.1 ha with h | h
          · exact avail a (.inl (.inr h))
          · exact ((hRm _).1 h).1
        obtain ⟨o,j⟩:=a
        cases o with
        | zero=>rfl
        | succ o =>
          have hne:o≠i:=fun e=>hiD (e ▸ (nD.1 hD').2.1 o rfl)
          have hoD:=(nD.1 hD').2.1 o rfl
          show zi (pr o (upd γ i x)) j=zi (pr o γ) j
          rw [hpi i hi o (hsubD o hoD) (by
            rw [Bool.or_eq_false_iff]
            refine ⟨iw hne,?_⟩
            rcases (hg o (hsubD o hoD)).1.2 with h5 | h5
            · simpa using h5
            · exact absurd hoD h5)]
      show Holds s' (pF f H pr D2 (upd γ i x))
      unfold pF
      have p2:=pf.map (vk H pr (upd γ i x))
      rw [List.map_append,eN,eR] at p2
      refine hs'.perm ?_
      rw [← List.append_assoc ((kT f.bor i).map _),← List.append_assoc]
      exact (p2.append_right _).symm
/- ---- what comes ahead, told by masks -/
def yu (B:List Nat) (o:Oper):Nat:=(dw o).foldl (fun m d=>Nat.lor m (Nat.lor (Nat.shiftLeft 1 d) (B.getD d 0))) 0
def Ev (B:List Nat):List Oper→List Nat→Bool
  | o :: r,b :: bs=>Nat.beq (Nat.lor b (yu B o)) (yu B o) && Ev B r bs
  | [],[]=>true
  | _,_=>false
def uS (B:List Nat) (i j:Nat):Bool:=Nat.testBit (B.getD i 0) j
theorem tn {B:List Nat} {j:Nat}:∀ (l:List Nat) (m:Nat),Nat.testBit (l.foldl (fun m d=>Nat.lor m (Nat.lor (Nat.shiftLeft 1 d) (B.getD d 0))) m) j=true→Nat.testBit m j=true ∨ ∃ d ∈ l,j=d ∨ Nat.testBit (B.getD d 0) j=true
  | [],m,h=>.inl h
  | d :: l,m,h=>by
    rcases tn l _ h with h | ⟨q,hq,h⟩
    · have h':Nat.testBit (m ||| ((1 <<< d) ||| (B.getD d 0))) j=true:=h
      rw [Nat.testBit_or,Nat.testBit_or,Bool.or_eq_true,Bool.or_eq_true] at h'
      rcases h' with h | h | h
      · exact .inl h
      · refine .inr ⟨d,List.mem_cons_self ..,.inl ?_⟩
        rw [Nat.one_shiftLeft,Nat.testBit_two_pow] at h
        exact (of_decide_eq_true h).symm
      · exact .inr ⟨d,List.mem_cons_self ..,.inr h⟩
    · exact .inr ⟨q,List.mem_cons_of_mem _ hq,h⟩
theorem yv {B:List Nat} {o:Oper} {j:Nat} (h:Nat.testBit (yu B o) j=true):∃ d ∈ dw o,j=d ∨ Nat.testBit (B.getD d 0) j=true:=by
  rcases tn _ _ h with h | h
  · simp at h
  · exact h
theorem y8 {B:List Nat}:∀ {L:List Oper} {bs:List Nat},Ev B L bs=true→bs.length=L.length∧∀ (i:Nat) (o:Oper) (b:Nat),L[i]?=some o→bs[i]?=some b→∀ j,Nat.testBit b j=true→Nat.testBit (yu B o) j=true
  | [],[],_=>⟨rfl,fun i o b h=>by simp at h⟩
  | [],_ :: _,h=>by cases h
  | _ :: _,[],h=>by cases h
  | o :: r,b :: bs,h=>by
    unfold Ev at h
    rw [Bool.and_eq_true] at h
    obtain ⟨h1,h2⟩:=y8 h.2
    refine ⟨by simp [h1],fun i o' b' ho hb j hj=>?_⟩
    cases i with
    | zero =>
      simp at ho hb
      subst ho;subst hb
      have e:=Nat.eq_of_beq_eq_true h.1
      rw [← e]
      show Nat.testBit (b ||| yu B o) j=true
      rw [Nat.testBit_or,hj];rfl
    | succ i=>exact h2 i o' b' (by simpa using ho) (by simpa using hb) j hj
theorem qL:∀ (r:List Oper) (acc:List (List Nat)) (k:Nat),k < acc.length→(nX r acc).getD k []=acc.getD k []
  | [],acc,k,_=>rfl
  | o :: r,acc,k,h=>by
    unfold nX
    rw [qL r _ k (by simp;omega),List.getD_eq_getElem?_getD,List.getD_eq_getElem?_getD,List.getElem?_append_left h]
theorem uT:∀ (r:List Oper) (acc:List (List Nat)) (k:Nat) (o:Oper),r[k]?=some o→(∀ d ∈ dw o,d < acc.length+k)→(nX r acc).getD (acc.length+k) []=dw o++(dw o).flatMap (fun d=>(nX r acc).getD d [])
  | [],acc,k,o,h,_=>by simp at h
  | o0 :: r,acc,0,o,h,hd=>by
    simp at h;subst h
    have hl:∀ d ∈ dw o0,(nX (o0 :: r) acc).getD d []=acc.getD d []:=fun d h=>qL _ _ _ (by have:=hd d h;omega)
    have e:(nX (o0 :: r) acc).getD (acc.length+0) []=dw o0++(dw o0).flatMap (fun d=>acc.getD d []):=by
      unfold nX
      rw [qL r _ _ (by simp),List.getD_eq_getElem?_getD,Nat.add_zero,List.getElem?_append_right (Nat.le_refl _)]
      simp
    rw [e]
    congr 1
    rw [List.flatMap_def,List.flatMap_def]
    congr 1
    exact List.map_congr_left fun d h=>(hl d h).symm
  | o0 :: r,acc,k+1,o,h,hd=>by
    unfold nX
    have:=uT r (acc++[dw o0++(dw o0).flatMap (fun d=>acc.getD d [])]) k o (by simpa using h) (fun d h=>by have:=hd d h;simp;omega)
    rw [List.length_append,List.length_singleton,Nat.add_assoc,Nat.add_comm 1 k] at this
    exact this
theorem yn {B:List Nat} {L:List Oper} (hm:Ev B L B=true) (hd:∀ (i:Nat) (o:Oper),L[i]?=some o→∀ d ∈ dw o,d < i):∀ (i j:Nat),uS B i j=true→j ∈ uK L i:=by
  intro i
  induction i using Nat.strongRecOn with
  | _ i ih =>
    intro j h
    obtain ⟨hl,hat⟩:=y8 hm
    unfold uS at h
    by_cases hi:i < B.length
    · rw [List.getD_eq_getElem?_getD,List.getElem?_eq_getElem hi,Option.getD_some] at h
      have hiL:i < L.length:=by omega
      have ho:=List.getElem?_eq_getElem hiL
      obtain ⟨d,hdm,hj⟩:=yv (hat i _ _ ho (List.getElem?_eq_getElem hi) j h)
      have hdi:=hd i _ ho d hdm
      have e:=uT L [] i _ ho (fun d h=>by have:=hd i _ ho d h;simpa using this)
      rw [List.length_nil,Nat.zero_add] at e
      unfold uK
      rw [e,List.mem_append,List.mem_flatMap]
      rcases hj with rfl | hj
      · exact .inl hdm
      · exact .inr ⟨d,hdm,ih d hdi j hj⟩
    · rw [List.getD_eq_getElem?_getD,List.getElem?_eq_none (by omega)] at h
      simp at h
theorem tq {p:Nat→Oper→Bool}:∀ {L:List Oper} {k:Nat},oE p k L=true→∀ (i:Nat) (o:Oper),L[i]?=some o→p (k+i) o=true
  | [],_,_,i,o,h=>by simp at h
  | q :: r,k,h,i,o,ho=>by
    unfold oE at h
    rw [Bool.and_eq_true] at h
    cases i with
    | zero=>simp at ho;subst ho;exact h.1
    | succ i=>have:=tq h.2 i o (by simpa using ho);rwa [Nat.add_assoc,Nat.add_comm 1 i] at this
theorem u0 {n:Nat} {ar:Array Oper} (h:oz n ar=true):∀ (i:Nat) (o:Oper),ar.toList[i]?=some o→∀ d ∈ dw o,d < i:=fun i o ho d hd=>by
  unfold oz at h
  rw [Bool.and_eq_true] at h
  have:=tq h.2 i o ho
  simp only [Bool.and_eq_true,Nat.zero_add] at this
  have h2:=List.all_eq_true.1 this.1.2 d hd
  exact Nat.lt_of_not_ge (fun h3=>by simp at h2;omega)
def wF (f:kn) (B:List Nat) (W:List Nat):Bool :=
  W.all (fun i=>q8.nodupB2 (kT f.cons i++kT f.bor i) && (kT f.cons i++kT f.bor i++kT f.use i).all (fun a=>rL f.ids a && (match a.1 with | 0=>true | o+1=>W.contains o && uS B i o && !(Nat.beq o i)) &&
    W.all (fun k=>Nat.beq k i || !(rL (kT f.cons k) a) || uS B k i)) && (kT f.cons i).all (fun a=>!(rL (kT f.use i) a)))
theorem yC {f:kn} {B:List Nat} {L:List Oper} {W:List Nat} (hs:∀ i j,uS B i j=true→j ∈ uK L i) (h:wF f B W=true):q8 f L W=true:=by
  unfold wF at h
  unfold q8
  rw [List.all_eq_true] at h ⊢
  intro i hi
  have h1:=h i hi
  rw [Bool.and_eq_true,Bool.and_eq_true] at h1 ⊢
  refine ⟨⟨h1.1.1,?_⟩,h1.2⟩
  have h2:=h1.1.2
  rw [List.all_eq_true] at h2 ⊢
  intro a ha
  have h3:=h2 a ha
  rw [Bool.and_eq_true,Bool.and_eq_true] at h3 ⊢
  refine ⟨⟨h3.1.1,?_⟩,?_⟩
  · have h4:=h3.1.2
    obtain ⟨a1,a2⟩:=a
    cases a1 with
    | zero=>rfl
    | succ o =>
      simp only [Bool.and_eq_true] at h4 ⊢
      exact ⟨⟨h4.1.1,by simpa using hs i o h4.1.2⟩,h4.2⟩
  · have h4:=h3.2
    rw [List.all_eq_true] at h4 ⊢
    intro k hk
    have h5:=h4 k hk
    rw [Bool.or_eq_true] at h5 ⊢
    rcases h5 with h5 | h5
    · exact .inl h5
    · exact .inr (by simpa using hs k i h5)
/-- ghosts of the operations in a mask alone -/
def yc (b:Nat) (γ:Gh):Gh:=fun k=>match Nat.testBit b k with | true=>γ k | false=>fun _=>undef
theorem vE {b i:Nat} {γ:Gh} {x:Nat→Value} (h:Nat.testBit b i=false):yc b (upd γ i x)=yc b γ:=by
  funext k
  show (match Nat.testBit b k with | true=>upd γ i x k | false=>fun _=>undef)=(match Nat.testBit b k with | true=>γ k | false=>fun _=>undef)
  cases hb:Nat.testBit b k with
  | false=>rfl
  | true =>
    show upd γ i x k=γ k
    have:Nat.beq k i=false:=by
      cases hq:Nat.beq k i with
      | false=>rfl
      | true=>have:=Nat.eq_of_beq_eq_true hq;subst this;rw [hb] at h;cases h
    unfold upd
    rw [this]
/-- itself and what comes ahead -/
def sP (B:List Nat) (j:Nat):Nat:=Nat.lor (B.getD j 0) (Nat.shiftLeft 1 j)
theorem zL {B:List Nat} {i j:Nat} (h1:Nat.beq j i=false) (h2:uS B j i=false):Nat.testBit (sP B j) i=false:=by
  show Nat.testBit (B.getD j 0 ||| (1 <<< j)) i=false
  rw [Nat.testBit_or,Nat.one_shiftLeft,Nat.testBit_two_pow]
  unfold uS at h2
  rw [h2,Bool.false_or]
  have:j≠i:=fun e=>by rw [e,Nat.beq_refl] at h1;cases h1
  simpa using this
def EH (vf:Gh→List Value) (B:List Nat) (γ:Gh):List Nat→List (Option Value)
  | j :: l=>DF (vf (yc (sP B j) γ)) j :: EH vf B γ l
  | []=>[]
theorem vY {vf:Gh→List Value} {B:List Nat} {γ:Gh}:∀ {l:List Nat},EH vf B γ l=l.map (fun j=>(vf γ)[j]?)→∀ j ∈ l,(vf (yc (sP B j) γ))[j]?=(vf γ)[j]?
  | [],_,j,h=>by cases h
  | i :: l,h,j,hj=>by
    simp only [EH,List.map_cons,List.cons.injEq,uo] at h
    rcases List.mem_cons.1 hj with rfl | hj
    · exact h.1
    · exact vY h.2 j hj
theorem y5 {a b:List Value}:∀ {l:List Nat},(∀ j ∈ l,a[j]?=b[j]?)→xQ a l=xR b l
  | [],_=>rfl
  | j :: l,h=>by
    simp only [xQ,xR,uo,wj]
    rw [h j (List.mem_cons_self ..),y5 fun q hq=>h q (List.mem_cons_of_mem _ hq)]
theorem Du {ar:Array Oper} {id:Nat} (B:List Nat) (f:kn) (vf:Gh→List Value) (pr:Nat→Gh→List aC) (Hf:Gh→List aC) (pures:List Nat) {T:qD} (hmix:P.follows .mixedOrders=true) (ht:T.ok P=true)
    (chk:(oz n ar && Ev B ar.toList B && wF f B (cG pures ar.toList.length) && Nat.ble f.np.length ar.toList.length)=true) (hH:Nat.ble f.h H.length=true)
    (hlen:∀ g,(vf g).length=ar.toList.length) (hp:∀ g,pures.map (fun i=>sM T ar (om E ar.toList (vf g) i) i)=pures.map (fun i=>(vf g)[i]?))
    (hk:∀ g,EH vf B g (List.range ar.toList.length)=(List.range ar.toList.length).map (fun j=>(vf g)[j]?))
    (hnp:∀ γ,(cG pures ar.toList.length).all (fun i=>Nat.beq (pr i γ).length (f.np.getD i 0))=true)
    (hpi:∀ γ,(cG pures ar.toList.length).map (fun o=>pr o (yc (sP B o) γ))=(cG pures ar.toList.length).map (fun o=>pr o γ))
    (hpr:∀ γ:Gh,(cG pures ar.toList.length).all (fun i=>((kT f.use i).map (vk H pr γ)).all xP)=true)
    (hHf:∀ γ,pF f H pr (cG pures ar.toList.length) γ=Hf γ)
    (steps:tO (vO P n ar E vf f H pr) (cG pures ar.toList.length))
    (fin:∀ γ,QH Q .normal (Al E ar.toList (vf γ)) (Hf γ)):WH P n (.region id ar true) Q E H:=by
  rw [Bool.and_eq_true,Bool.and_eq_true,Bool.and_eq_true] at chk
  have hs:=yn chk.1.1.2 (u0 chk.1.1.1)
  have hno:∀ o i,(Nat.beq o i || (uK ar.toList o).contains i)=false→Nat.testBit (sP B o) i=false:=fun o i hc=>by
    rw [Bool.or_eq_false_iff] at hc
    refine zL hc.1 ?_
    cases hb:uS B o i with
    | false=>rfl
    | true=>have:=hs o i hb;simp [this] at hc
  exact Cn f vf pr Hf pures T hmix ht chk.1.1.1 hlen hp (fun i hi g x=>y5 fun j hj=>by
      obtain ⟨hj1,hj2⟩:=List.mem_filter.1 hj
      have hb:Nat.testBit (sP B j) i=false:=hno j i (by
        rw [Bool.and_eq_true] at hj2
        rw [Bool.or_eq_false_iff]
        exact ⟨by simpa using hj2.1,by simpa using hj2.2⟩)
      rw [← vY (hk (upd g i x)) j hj1,vE hb,vY (hk g) j hj1])
    (fun i hi x=>List.all_eq_true.1 (hnp x) i hi) (fun i hi o ho hc γ x=>by
      have h1:=List.map_inj_left.1 (hpi (upd γ i x)) o ho
      rw [← h1,vE (hno o i hc)]
      exact List.map_inj_left.1 (hpi γ) o ho) chk.2 (yC hs chk.1.2) (fun i hi γ=>List.all_eq_true.1 (hpr γ) i hi) steps hH hHf fin
theorem GG {L:List Oper} {vf:Gh→List Value} {pr:Nat→Gh→List aC} {i:Nat} {γ:Gh} {F:List aC} (x:Nat→Value) (hv:xw L i E=wD L i (vf (upd γ i x))) (hH:gI H (pr i (upd γ i x)++F)):QH (Gr L vf pr i γ F) .normal E H:=fun s ok hs=>by
  obtain ⟨s',ew,ok',hs'⟩:=hH s ok hs
  exact ⟨E,s',fun _=>rfl,ew,x,hv,ok',hs'⟩
/-- ghosts, told by a list -/
def gl (l:List Value):Nat→Value:=fun k=>nthV l k
where
  nthV:List Value→Nat→Value
    | [],_=>undef
    | x :: l,j=>match j with | 0=>x | j+1=>nthV l j
/-- A store into a box whose pointer is not spelt. -/
def EM (E:Env) (o:Oper):Option (TypeId × Value × Value):=match o.op with | .store t x y=>some (t,E.ev x,E.ev y) | _=>none
theorem uE {ops:pp} {i:Nat} {t e:TypeId} {agg:Bool} {sz by_:Nat} {z v p:Value} {vs cs:List Value} (j:Nat) (hp:pick H j=some (a7 p e vs)) (hv:lG H v cs) (h:dec n ops E i EM=some (t,p,v)) (ht:cM P t=some (agg,sz,by_,z))
    (hl:Nat.beq cs.length sz=true) (hfit:Nat.ble sz vs.length=true) (h1:∀ s,Holds s H→∀ u ∈ cs,u.oneCell'=true)
    (g:WI P n ops (i+1) Q (E.putO (dM ops i) undef) (a7 p e (yb vs 0 cs) :: bo H j)):WI P n ops i Q E H :=
  Ej h (fun o ho s ok hs=>by
    obtain ⟨b,rfl,hb⟩:=hs.q _ (bp hp)
    unfold EM at ho
    split at ho
    · rename_i t' x y hop
      simp only [Option.some.injEq,Prod.mk.injEq] at ho
      obtain ⟨rfl,hx,hy⟩:=ho
      have hc:=hv s hs
      have hl':=Nat.eq_of_beq_eq_true hl
      have hr:=oI (P:=P) (off:=0) (v:=v) ht hb (by rw [hc];simpa using hl') (by simpa using Nat.le_of_ble_eq_true hfit) (by rw [hc];exact h1 s hs)
      refine ⟨⟨_,s.fz⟩,?_,Holds.upd ok (Holds.out hs hp) (w':=s.w.setRow b (yb vs 0 cs).toArray) (setRow_size ..) rfl rfl rfl (fun k _ hk=>setRow_other _ _ _ _ (fun e=>hk (by subst e;simp [a7,nQ]))) rfl ⟨b,rfl,setRow_heap _ _ _ _ _ _ hb⟩⟩
      unfold execOp
      rw [hop]
      simp only [hx,hy]
      simp only [Sem.run_bind,hr,Result.andThen_ok,Sem.run_pure,yb,hl',hc]
    · cases ho) g
/-- A pointer in a slot is spelt by its block. -/
theorem tA {x:Exit} {p:Value} {e:TypeId} {vs:List Value} (t j:Nat) (hE:E.get t=p) (hp:pick H j=some (a7 p e vs)) (g:∀ b:Nat,QH Q x (E.put t (.pointer (some ⟨b,0,none⟩))) (a7 (.pointer (some ⟨b,0,none⟩)) e vs :: bo H j)):QH Q x E H:=fun s ok hs=>by
  obtain ⟨b,rfl,hb⟩:=hs.q _ (bp hp)
  obtain ⟨E',s',he,hw,hq⟩:=g b s ok (Holds.out hs hp)
  refine ⟨E',s',fun u=>(he u).trans ?_,hw,hq⟩
  rw [Env.get_put]
  split
  · rename_i hu;subst hu;exact hE.symm
  · rfl
end
end Gw
