/- Own words: forms of the rules for proofs that are written as terms. -/
import Derived.Test.YtkmbblnepjofaaaGreatDoorGw15
set_option linter.unusedVariables false
namespace Gw
open Go Gv
theorem bn {α β:Type} {x:Option α} {f:α→Option β} {r:β} {G:Prop} (h:(x >>= f)=some r) (k:∀ a,x=some a→f a=some r→G):G:=by
  obtain ⟨a,e,h⟩:=so h
  exact k a e h
theorem bN {β:Type} {n:Nat} {f:Unit→Option β} {r:β} {G:Prop} (h:(mQ n >>= f)=some r) (k:n < 9223372036854775807→f ()=some r→G):G:=by
  obtain ⟨a,e,h⟩:=so h
  exact k (lH e) h
theorem bc {α:Type} {c:Bool} {x y:Option α} {r:α} {G:Prop} (h:(bif c then x else y)=some r) (a:c=true→x=some r→G) (b:c=false→y=some r→G):G:=by
  rcases EF h with ⟨t,h⟩ | ⟨t,h⟩
  · exact a t h
  · exact b t h
section
variable {P:Program} {n:Nat} {Q:b7} {E:Env} {H F:List aC} {ops:pp} {i:Nat}
theorem F2 {f:FuncId} {l:List Value} {Pre:List aC} {W0 W1:Type} {Y:W0→W1→List aC} {X:W0→W1→Value} (js:List (Nat × Bool)) (hspec:Ct P f l Pre (fun v L=>∃ a b,v=X a b∧L=Y a b)) (hp:preO js H=some Pre) (hf:aZ P f=true)
    (g:∀ a b,WI P n ops (i+1) Q (E.putO (dM ops i) (X a b)) (Y a b++fH js H)) (h:dec n ops E i n0=some (f,l):=by kernel_rfl):WI P n ops i Q E H :=
  wv js hspec hp hf h (fun v L ⟨a,b,hv,hL⟩=>hv ▸ hL ▸ g a b)
theorem F3 {f:FuncId} {l:List Value} {Pre:List aC} {W0 W1 W2:Type} {Y:W0→W1→W2→List aC} {X:W0→W1→W2→Value} (js:List (Nat × Bool)) (hspec:Ct P f l Pre (fun v L=>∃ a b c,v=X a b c∧L=Y a b c)) (hp:preO js H=some Pre) (hf:aZ P f=true)
    (g:∀ a b c,WI P n ops (i+1) Q (E.putO (dM ops i) (X a b c)) (Y a b c++fH js H)) (h:dec n ops E i n0=some (f,l):=by kernel_rfl):WI P n ops i Q E H :=
  wv js hspec hp hf h (fun v L ⟨a,b,c,hv,hL⟩=>hv ▸ hL ▸ g a b c)
theorem F4 {f:FuncId} {l:List Value} {Pre:List aC} {W0 W1 W2 W3:Type} {Y:W0→W1→W2→W3→List aC} {X:W0→W1→W2→W3→Value} (js:List (Nat × Bool)) (hspec:Ct P f l Pre (fun v L=>∃ a b c d,v=X a b c d∧L=Y a b c d)) (hp:preO js H=some Pre) (hf:aZ P f=true)
    (g:∀ a b c d,WI P n ops (i+1) Q (E.putO (dM ops i) (X a b c d)) (Y a b c d++fH js H)) (h:dec n ops E i n0=some (f,l):=by kernel_rfl):WI P n ops i Q E H :=
  wv js hspec hp hf h (fun v L ⟨a,b,c,d,hv,hL⟩=>hv ▸ hL ▸ g a b c d)
theorem F5 {f:FuncId} {l:List Value} {Pre:List aC} {W0 W1 W2 W3 W4:Type} {Y:W0→W1→W2→W3→W4→List aC} {X:W0→W1→W2→W3→W4→Value} (js:List (Nat × Bool)) (hspec:Ct P f l Pre (fun v L=>∃ a b c d e,v=X a b c d e∧L=Y a b c d e)) (hp:preO js H=some Pre) (hf:aZ P f=true)
    (g:∀ a b c d e,WI P n ops (i+1) Q (E.putO (dM ops i) (X a b c d e)) (Y a b c d e++fH js H)) (h:dec n ops E i n0=some (f,l):=by kernel_rfl):WI P n ops i Q E H :=
  wv js hspec hp hf h (fun v L ⟨a,b,c,d,e,hv,hL⟩=>hv ▸ hL ▸ g a b c d e)
theorem F6 {f:FuncId} {l:List Value} {Pre:List aC} {W0 W1 W2 W3 W4 W5:Type} {Y:W0→W1→W2→W3→W4→W5→List aC} {X:W0→W1→W2→W3→W4→W5→Value} (js:List (Nat × Bool)) (hspec:Ct P f l Pre (fun v L=>∃ a b c d e f,v=X a b c d e f∧L=Y a b c d e f)) (hp:preO js H=some Pre) (hf:aZ P f=true)
    (g:∀ a b c d e f,WI P n ops (i+1) Q (E.putO (dM ops i) (X a b c d e f)) (Y a b c d e f++fH js H)) (h:dec n ops E i n0=some (f,l):=by kernel_rfl):WI P n ops i Q E H :=
  wv js hspec hp hf h (fun v L ⟨a,b,c,d,e,f,hv,hL⟩=>hv ▸ hL ▸ g a b c d e f)
theorem aY {S G:Type} {body:Nat→S→Option S} {r:S} {EE:Nat→S→G→List (Nat × Value)} {HH:Nat→S→G→List aC} {rem k:Nat} {s' o:S} (g':G) (e:some s'=some o) (h:ea body rem (k+1) o=some r) (hE:agree (EE (k+1) s' g') E) (hH:gI H (HH (k+1) s' g')) :
    QH (F0 body r EE HH rem k Q) .normal E H:=by cases e;exact GI g' h hE hH
theorem c7 {S R G:Type} {body:Nat→S→Option (Out S R)} {r:Out S R} {EE:Nat→S→G→List (Nat × Value)} {HH:Nat→S→G→List aC} {rem k:Nat} {s':S} {o:Out S R} (g':G) (e:some (.go s')=some o) (h:Fc body rem k r o) (hE:agree (EE (k+1) s' g') E) (hH:gI H (HH (k+1) s' g')) :
    QH (Ff body r EE HH rem k Q) .normal E H:=by cases e;exact E9 g' h hE hH
theorem kE {S R G:Type} {step:S→Option (Out S R)} {r:R} {EE:S→G→List (Nat × Value)} {HH:S→G→List aC} {k:Nat} {s':S} {o:Out S R} (g':G) (e:some (.go s')=some o) (h:EU step k r o) (hE:agree (EE s' g') E) (hH:gI H (HH s' g')):QH (Eu step r EE HH k Q) .normal E H:=by cases e;exact GH g' h hE hH
/- ---- what is taken out of a heap, told shortly -/
def zp:List Nat→List Nat
  | a :: n :: r=>List.range' a n++zp r
  | _=>[]
def za:List Nat→List Nat→List (Nat × Bool)
  | _,[]=>[]
  | d,p :: r=>(p - (d.filter (fun q=>Nat.blt q p)).length,false) :: za (p :: d) r
/-- runs of places: where each begins, how long it is -/
def zj (l:List Nat):List (Nat × Bool):=za [] (zp l)
/-- picks, two digits each: twice the place, and one more where the item stays -/
def GW:Nat→Nat→List (Nat × Bool)→List (Nat × Bool)
  | 0,_,l=>l
  | f+1,n,l=>match Nat.ble n 1 with
    | true=>l
    | false=>GW f (n / 100) ((n % 100 / 2,Nat.beq (n % 2) 1) :: l)
abbrev dn (n:Nat):List (Nat × Bool):=GW 80 n []
/-- items at places take the place of others -/
def Ew:List (Nat × aC)→Nat→List aC→Option (List aC)
  | _,_,[]=>some []
  | [],i,x :: L=>match Ew [] (i+1) L with
    | some T=>some (x :: T)
    | none=>none
  | p :: ps,i,x :: L=>match Nat.beq p.1 i with
    | true=>match Ew ps (i+1) L with
      | some T=>some (p.2 :: T)
      | none=>none
    | false=>match Ew (p :: ps) (i+1) L with
      | some T=>some (x :: T)
      | none=>none
/-- the first n items one by one, and what comes after -/
def EO:Nat→List aC→Option (List aC × List aC)
  | 0,H=>some ([],H)
  | _+1,[]=>none
  | n+1,x :: H=>match EO n H with
    | some (A,F)=>some (x :: A,F)
    | none=>none
/-- what is taken out of the first items; the rest of them is forgotten -/
def tk (n:Nat) (js:List (Nat × Bool)) (H:List aC):Option (List aC × List aC):=match EO n H with
  | some (A,F)=>match uu js A with
    | some (L,_)=>some (L,F)
    | none=>none
  | none=>none
def EQ:List (Nat × Value)→(Nat→Value)→Nat→Option Value
  | [],j,t=>some (j t)
  | p :: r,j,t=>match Nat.beq p.1 t with | true=>some p.2 | false=>EQ r j t
def DD (E:Env):List Nat→Option (List (Nat × Value))
  | []=>some []
  | r :: l=>match EQ E.l E.j r with
    | some v=>match DD E l with
      | some V=>some ((r,v) :: V)
      | none=>none
    | none=>none
abbrev nV:Value:=.slice none 0 0
theorem wg:∀ {n:Nat} {H A F:List aC},EO n H=some (A,F)→H=A++F
  | 0,H,A,F,h=>by cases h;rfl
  | n+1,[],A,F,h=>by cases h
  | n+1,x :: H,A,F,h=>by
    unfold EO at h
    split at h
    · rename_i B G hB;cases h;rw [wg hB];rfl
    · cases h
theorem xv {n:Nat} {js:List (Nat × Bool)} {L R:List aC} (h:tk n js H=some (L,R)):gI H (L++R):=fun s ok hs=>⟨s,rfl,ok,by
  unfold tk at h
  split at h
  · rename_i A G hA
    split at h
    · rename_i L' R' hL
      cases h
      rw [wg hA] at hs
      have h1:=nH (A:=R) js (hs.perm List.perm_append_comm) hL
      have h2:=h1.perm (List.perm_append_comm (l₁:=R) (l₂:=L++R'))
      have hsub:(L++R).Sublist ((L++R')++R):=List.Sublist.append (List.sublist_append_left L R') (List.Sublist.refl R)
      refine ⟨fun y hy=>h2.q y (hsub.subset hy),fun b hb=>h2.own b ?_,h2.nd.sublist (qb hsub)⟩
      obtain ⟨y,hy,hby⟩:=List.mem_flatMap.1 hb
      exact List.mem_flatMap.2 ⟨y,hsub.subset hy,hby⟩
    · cases h
  · cases h⟩
theorem Rk {A R:List aC} (m:Nat) (hj:EO m H=some (A,R)) (g:WI P n ops i Q E (A++R)):WI P n ops i Q E H:=by rw [wg hj];exact g
theorem B3 {E:Env} {t:Nat} {v:Value} (h:EQ E.l E.j t=some v):E.get t=v:=by
  have:∀ l,EQ l E.j t=some v→fU l E.j t=v:=by
    intro l
    induction l with
    | nil=>intro h;exact Option.some.inj h
    | cons p r ih =>
      intro h
      unfold EQ at h;unfold fU
      cases hb:Nat.beq p.1 t
      · rw [hb] at h;exact ih h
      · rw [hb] at h;exact Option.some.inj h
  exact this _ h
theorem tv {E:Env}:∀ {l:List Nat} {V:List (Nat × Value)},DD E l=some V→agree V E
  | [],V,h=>by cases h;exact trivial
  | r :: l,V,h=>by
    unfold DD at h
    split at h
    · rename_i v hv
      split at h
      · rename_i W hW;cases h;exact ⟨B3 hv,tv hW⟩
      · cases h
    · cases h
theorem Nz {x:Exit} {L:List aC} {V:List (Nat × Value)} (rs:List Nat) (d:Nat) (js:List (Nat × Bool)) (R:List aC) (hv:DD E rs=some V) (hj:tk d js H=some (L,R)) (g:∀ j,QH Q x ⟨V,j⟩ (L++R)):QH Q x E H:=fun s ok hs=>by
  obtain ⟨s1,ew,ok1,hs1⟩:=xv hj s ok hs
  obtain ⟨E',s',he,hw,hq⟩:=g E.get s1 ok1 hs1
  exact ⟨E',s',fun u=>(he u).trans (sk (tv hv) u),hw.trans ew,hq⟩
theorem fG {S G:Type} {c:Code} {body:Nat→S→Option S} {r:S} {N k0:Nat} {s0:S} {L:List aC} {V:List (Nat × Value)} {HL:Nat→S→G→List aC} (hl:ea body (N - k0) k0 s0=some r) (g0:G) (hN:k0≤N)
    (d:Nat) (js:List (Nat × Bool)) (R:List aC) (hj:tk d js H=some (L,R)) (rs:List Nat) (hv:DD E rs=some V) (EE:Nat→S→G→List (Nat × Value)) (ps:Nat→S→G→List (Nat × aC)) (hn:(fun k s g=>Ew (ps k s g) 0 L)=fun k s g=>some (HL k s g))
    (last:∀ g j,WH P n c (Fg Q) ⟨V++EE N r g,j⟩ (HL N r g++R))
    (round:∀ rem k s g s',k0≤k∧k < N→body k s=some s'→ea body rem (k+1) s'=some r→∀ j,WH P n c (F0 body r (fun k s g=>V++EE k s g) (fun k s g=>HL k s g++R) rem k Q) ⟨V++EE k s g,j⟩ (HL k s g++R))
    (hE:agree (V++EE k0 s0 g0) E:=by exact aK) (hH:HL k0 s0 g0=L:=by kernel_rfl):WH P n (.loop c) Q E H :=
  sy (fun k s g=>V++EE k s g) (fun k s g=>HL k s g++R) g0 hl hN hE (by show gI H (HL k0 s0 g0++R);rw [hH];exact xv hj) last round
theorem qp {S Z G:Type} {c:Code} {body:Nat→S→Option (Out S Z)} {r:Out S Z} {N k0:Nat} {s0:S} {L:List aC} {V:List (Nat × Value)} {HL:Nat→S→G→List aC} (hl:nM body (N - k0) k0 s0=some r) (g0:G) (hN:k0≤N)
    (d:Nat) (js:List (Nat × Bool)) (R:List aC) (hj:tk d js H=some (L,R)) (rs:List Nat) (hv:DD E rs=some V) (EE:Nat→S→G→List (Nat × Value)) (ps:Nat→S→G→List (Nat × aC)) (hn:(fun k s g=>Ew (ps k s g) 0 L)=fun k s g=>some (HL k s g))
    (last:∀ s g,r=.go s→∀ j,WH P n c (Fg Q) ⟨V++EE N s g,j⟩ (HL N s g++R))
    (round:∀ rem k s g o,k0≤k∧k < N→body k s=some o→Fc body rem k r o→∀ j,WH P n c (Ff body r (fun k s g=>V++EE k s g) (fun k s g=>HL k s g++R) rem k Q) ⟨V++EE k s g,j⟩ (HL k s g++R))
    (hE:agree (V++EE k0 s0 g0) E:=by exact aK) (hH:HL k0 s0 g0=L:=by kernel_rfl):WH P n (.loop c) Q E H :=
  Gt (fun k s g=>V++EE k s g) (fun k s g=>HL k s g++R) g0 hl hN hE (by show gI H (HL k0 s0 g0++R);rw [hH];exact xv hj) last round
theorem xn {S Z G:Type} {c:Code} {step:S→Option (Out S Z)} {r:Z} {N:Nat} {s0:S} {L:List aC} {V:List (Nat × Value)} {HL:S→G→List aC} (hl:qE step N s0=some r) (g0:G)
    (d:Nat) (js:List (Nat × Bool)) (R:List aC) (hj:tk d js H=some (L,R)) (rs:List Nat) (hv:DD E rs=some V) (EE:S→G→List (Nat × Value)) (ps:S→G→List (Nat × aC)) (hn:(fun s g=>Ew (ps s g) 0 L)=fun s g=>some (HL s g))
    (round:∀ k s g o,step s=some o→EU step k r o→∀ j,WH P n c (Eu step r (fun s g=>V++EE s g) (fun s g=>HL s g++R) k Q) ⟨V++EE s g,j⟩ (HL s g++R))
    (hE:agree (V++EE s0 g0) E:=by exact aK) (hH:HL s0 g0=L:=by kernel_rfl):WH P n (.loop c) Q E H :=
  EP (fun s g=>V++EE s g) (fun s g=>HL s g++R) g0 hl hE (by show gI H (HL s0 g0++R);rw [hH];exact xv hj) round
end
end Gw
