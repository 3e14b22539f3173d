/- Plain laws of the reference of chapter 19: answers and accusations. -/
import Derived.Test.YtahofpgjianhdaaGreatDoorQr
set_option linter.unusedVariables false
namespace Pu
open Gw Gl Sp
/-- the disputed pairs of a row before a column -/
def lc (F:List (List (List Nat))) (d i j:Nat):List bF:=((List.range j).filter fun j=>decide ((((F.getD i []).getD d []).getD j 0)≠0)).map fun j=>(⟨((i:Nat):Int),((j:Nat):Int)⟩:bF)
theorem sM {F:List (List (List Nat))} {n d k:Nat}:iE F n d (k+1)=iE F n d k++lc F d k n:=by
  unfold iE lc
  rw [List.range_succ,List.map_append,List.flatten_append];simp
theorem oe {F:List (List (List Nat))} {d i j:Nat}:lc F d i (j+1)=lc F d i j++if ((F.getD i []).getD d []).getD j 0≠0 then [⟨((i:Nat):Int),((j:Nat):Int)⟩] else []:=by
  unfold lc
  rw [List.range_succ,List.filter_append,List.map_append]
  congr 1
  by_cases g:((F.getD i []).getD d []).getD j 0≠0
  · rw [if_pos g];simp only [List.filter_cons,decide_eq_true g,List.filter_nil];simp
  · rw [if_neg g];simp only [List.filter_cons,decide_eq_false g,List.filter_nil];simp
theorem vu {F:List (List (List Nat))} {d i:Nat}:lc F d i 0=[]:=rfl
theorem xk {F:List (List (List Nat))} {n d:Nat}:iE F n d 0=[]:=rfl
theorem zh {F:List (List (List Nat))} {n d k:Nat}:∀ {m:Nat},k≤m→∃ r,iE F n d m=iE F n d k++r
  | 0,h=>⟨[],by rw [show k=0 by omega];rfl⟩
  | m+1,h=>by
    by_cases g:k=m+1
    · subst g;exact ⟨[],by simp⟩
    · obtain ⟨r,e⟩:=zh (k:=k) (m:=m) (by omega)
      exact ⟨r++lc F d m n,by rw [sM,e,List.append_assoc]⟩
theorem xl {F:List (List (List Nat))} {d i j:Nat}:∀ {m:Nat},j≤m→∃ r,lc F d i m=lc F d i j++r
  | 0,h=>⟨[],by rw [show j=0 by omega];rfl⟩
  | m+1,h=>by
    by_cases g:j=m+1
    · subst g;exact ⟨[],by simp⟩
    · obtain ⟨r,e⟩:=xl (F:=F) (d:=d) (i:=i) (j:=j) (m:=m) (by omega)
      exact ⟨_,by rw [oe,e,List.append_assoc]⟩
/-- the pair at hand stands at its place -/
theorem BK {F:List (List (List Nat))} {n d i j:Nat} (hi:i < n) (hj:j < n) (h:((F.getD i []).getD d []).getD j 0≠0):(iE F n d i++lc F d i j).length < (iE F n d n).length∧(iE F n d n).getD (iE F n d i++lc F d i j).length ⟨0,0⟩=⟨((i:Nat):Int),((j:Nat):Int)⟩:=by
  obtain ⟨r1,e1⟩:=zh (F:=F) (n:=n) (d:=d) (k:=i+1) (m:=n) (by omega)
  obtain ⟨r2,e2⟩:=xl (F:=F) (d:=d) (i:=i) (j:=j+1) (m:=n) (by omega)
  have e:iE F n d n=(iE F n d i++lc F d i j)++(⟨((i:Nat):Int),((j:Nat):Int)⟩ :: (r2++r1)):=by
    rw [e1,sM,e2,oe,if_pos h];simp
  rw [e]
  refine ⟨by rw [List.length_append (as:=iE F n d i++lc F d i j)];simp,?_⟩
  rw [List.getD_eq_getElem?_getD,List.getElem?_append_right (Nat.le_refl _),Nat.sub_self];rfl
theorem uy {p:Nat} {S:List (List (List Nat))} {l:List bF}:lR p S l=(l.map fun x=>(List.range S.length).map fun k=>Dx p (S.getD k []) x).flatten:=by
  unfold lR
  congr 1
  refine List.ext_getElem (by simp) fun i h1 h2=>?_
  have hi:i < l.length:=by simpa using h2
  simp only [List.getElem_map,List.getElem_range]
  rw [List.getD_eq_getElem?_getD,List.getElem?_eq_getElem hi];rfl
theorem C7 {p:Nat} {S:List (List (List Nat))} {l l':List bF}:lR p S (l++l')=lR p S l++lR p S l':=by
  rw [uy,uy,uy,List.map_append,List.flatten_append]
theorem xX {p:Nat} {S:List (List (List Nat))} {l:List bF}:(lR p S l).length=l.length*S.length:=ou fun _ _=>by simp
theorem C9 {p:Nat} {S:List (List (List Nat))} {x:bF}:lR p S [x]=(List.range S.length).map fun k=>Dx p (S.getD k []) x:=by
  rw [uy];simp
/-- what the second half starts from -/
structure Zs (p n t:Nat) (z:am):Prop where
  S:Ss p n t z.S
  R:Rr p n t (fun d=>(z.S.getD d []).length) z.Rows
  F:Fl n z.az
theorem rq {p n t:Nat} {z:am} (zs:Zs p n t z) {d i j:Nat} {x:Int} {β:Type} {f:Bool→Option β} (hn:n≤13) (hd:d < n) (hi:i < n) (hj:j < n) :
    ((z.S[d]? >>= fun x6=>bif decide (x < ((x6.length:Nat):Int)) then
      gM (((i+1:Nat)):Int) (1:Int) >>= fun x7=>eD z.az x7 >>= fun x8=>x8[d]? >>= fun x9 =>
      gM (((j+1:Nat)):Int) (1:Int) >>= fun x10=>eD x9 x10 >>= fun x11=>some (((x11:Nat):Int) != (0:Int)) else some false) >>= f)=f (decide (x < (((z.S.getD d []).length:Nat):Int)) && decide (((z.az.getD i []).getD d []).getD j 0≠0)):=by
  have e1:((i+1:Nat):Int) - 1=((i:Nat):Int):=by omega
  have e2:((j+1:Nat):Int) - 1=((j:Nat):Int):=by omega
  rw [ix [] (by rw [zs.S.len];exact hd),bS]
  by_cases g:x < (((z.S.getD d []).length:Nat):Int)
  · rw [dT g,cT,b8 (by omega) (by omega),bS,e1,aO [] (by omega) (by rw [zs.F.len];omega),bS,Int.toNat_natCast,ix [] (by rw [zs.F.row i hi];exact hd),bS,b8 (by omega) (by omega),bS,e2,aO 0 (by omega) (by rw [zs.F.w i hi d hd];omega),bS,Int.toNat_natCast,bS]
    by_cases g2:((z.az.getD i []).getD d []).getD j 0=0
    · rw [g2];rfl
    · rw [decide_eq_true g2]
      have:((((z.az.getD i []).getD d []).getD j 0:Nat):Int)≠0:=by omega
      rw [qT this];rfl
  · rw [dF g,cF,bS];rfl
/-- the k-th value of the q-th pair contradicts a row of party x -/
def Vi (p n:Nat) (z:am) (h:List Nat) (x d q k:Nat):Prop:=∃ r,r < (tE ((iE z.az n d n).getD q ⟨0,0⟩) x).length∧kD p (((z.Rows.getD x []).getD d []).getD k []) (((tE ((iE z.az n d n).getD q ⟨0,0⟩) x).getD r 0).toNat+1)≠h.getD (q*(z.S.getD d []).length+k) 0
theorem Fi {i j x:Nat} {Q:Nat→Prop}:(∃ r,r < (tE ⟨((i:Nat):Int),((j:Nat):Int)⟩ x).length∧Q ((tE ⟨((i:Nat):Int),((j:Nat):Int)⟩ x).getD r 0).toNat) ↔ (x=i∧Q j) ∨ (x=j∧Q i):=by
  unfold tE
  simp only
  by_cases g1:((i:Nat):Int)=((x:Nat):Int)
  · by_cases g2:((j:Nat):Int)=((x:Nat):Int)
    · rw [if_pos g1,if_pos g2]
      refine ⟨fun ⟨r,hr,h⟩=>?_,fun h=>?_⟩
      · have hr:r < 2:=hr
        rcases (show r=0 ∨ r=1 by omega) with rfl | rfl
        · exact .inl ⟨by omega,by simpa using h⟩
        · exact .inr ⟨by omega,by simpa using h⟩
      · rcases h with ⟨_,h⟩ | ⟨_,h⟩
        · exact ⟨0,by simp,by simpa using h⟩
        · exact ⟨1,by simp,by simpa using h⟩
    · rw [if_pos g1,if_neg g2]
      refine ⟨fun ⟨r,hr,h⟩=>?_,fun h=>?_⟩
      · have hr:r < 1:=hr
        rcases (show r=0 by omega) with rfl
        exact .inl ⟨by omega,by simpa using h⟩
      · rcases h with ⟨_,h⟩ | ⟨e,h⟩
        · exact ⟨0,by simp,by simpa using h⟩
        · omega
  · by_cases g2:((j:Nat):Int)=((x:Nat):Int)
    · rw [if_neg g1,if_pos g2]
      refine ⟨fun ⟨r,hr,h⟩=>?_,fun h=>?_⟩
      · have hr:r < 1:=hr
        rcases (show r=0 by omega) with rfl
        exact .inr ⟨by omega,by simpa using h⟩
      · rcases h with ⟨e,h⟩ | ⟨_,h⟩
        · omega
        · exact ⟨0,by simp,by simpa using h⟩
    · rw [if_neg g1,if_neg g2]
      refine ⟨fun ⟨r,hr,h⟩=>?_,fun h=>?_⟩
      · simp at hr
      · rcases h with ⟨e,h⟩ | ⟨e,h⟩ <;> omega
theorem xU {l:List Nat} {m:Nat} (hm:m≤1000) (hl:l.length≤1000):fu ⟨l⟩ ((m:Nat):Int)=some (rz l m,l.drop m):=by
  unfold fu
  simp only
  rw [mV hm (by omega),bS]
  by_cases g:m < l.length
  · rw [dT (by omega),cT,lq (by omega) (by omega) (by omega),bS]
    simp only [Int.toNat_natCast]
    rw [List.take_of_length_le (by rw [List.length_drop];omega)]
  · rw [dF (by omega),cF,List.drop_eq_nil_of_le (by omega)]
section
variable {p:Nat} [NeZero p] {n t:Nat}
theorem HN (hp:iD p) {M:List (List Nat)} {m x y:Nat} (hM:y9 p m m M) (hm:m≤10) (hx:x < p) (hy:y < p):jT p M x y=some (kD p (Rw p M x) y):=by
  obtain ⟨_,e,hl,ht,_⟩:=nf hp hM hm hx
  unfold jT
  rw [e,bS,z9 hp ht (by omega) hy,bS]
theorem sW (hp:iD p) {f:List Nat} {x:Nat} (hf:Lt p f) (hl:f.length≤1000) (hx:x < p):cQ p f x=some (kD p f x):=by
  obtain ⟨y,e,h1,h2⟩:=yJ hp hf hx
  obtain ⟨_,h3,h4⟩:=kg hp hf hx hl
  rw [e,tY h1 h3 (by rw [h2,h4])]
/-- the answers -/
theorem CW (hp:iD p) {w:ab} {z:am} (zs:Zs p n t z) (hn:n≤7) (ht:t≤2) (hN:w.S.N=(n:Int)) (hP:w.S.P=p) :
    cW (fun k1 (st:(List (List Nat)))=>eP z w k1 st) n 0 (List.replicate n [])=some ((List.range n).map fun d=>lR p (z.S.getD d []) (iE z.az n d n)):=by
  have hlt:=hp.lt
  have hmx:max 1 (((n:Nat):Int)+1).toNat - 1=n:=by omega
  have hmx2:max 1 (((n:Nat):Int)+1).toNat=n+1:=by omega
  have hnn:n*n≤7*7:=Nat.mul_le_mul hn hn
  refine iZ _ fun d l hd hl h0=>?_
  have hm:=zs.S.many d hd
  have hg:∀ x,(l.set d x).getD d []=x:=fun x=>by rw [bb (by omega),if_pos rfl]
  unfold eP
  rw [hN,hmx2,bU (by omega),bS,Nat.add_sub_cancel]
  have e:=oP (body:=fun k2 (st:(List (List Nat)))=>eQ z w d k2 st) (fun k=>l.set d (lR p (z.S.getD d []) (iE z.az n d (k - 1)))) (n:=n) (a:=1) (fun k h1 h2=>by
    obtain ⟨i,rfl⟩:∃ i,k=i+1:=⟨k - 1,by omega⟩
    have hi:i < n:=by omega
    unfold eQ
    rw [hN,hmx]
    have e2:=oP (body:=fun k3 (st:(List (List Nat)))=>eS z w d (i+1) k3 st) (fun k=>l.set d (lR p (z.S.getD d []) (iE z.az n d i++lc z.az d i (k - 1)))) (n:=n) (a:=1) (fun k h3 h4=>by
      obtain ⟨j,rfl⟩:∃ j,k=j+1:=⟨k - 1,by omega⟩
      have hj:j < n:=by omega
      have hdl:=pV (F:=z.az) (n:=n) (d:=d) (k:=i)
      have hrl:(lc z.az d i j).length≤j:=by
        unfold lc;rw [List.length_map]
        have:=List.length_filter_le (fun j=>decide ((((z.az.getD i []).getD d []).getD j 0)≠0)) (List.range j)
        rw [List.length_range] at this;exact this
      have hin:i*n≤7*7:=Nat.mul_le_mul (by omega) hn
      have hsl:(lR p (z.S.getD d []) (iE z.az n d i++lc z.az d i j)).length≤56*10:=by
        rw [xX];exact Nat.mul_le_mul (by rw [List.length_append];omega) hm
      have hu1:mJ (((i+1:Nat)):Int)=i+1:=by unfold mJ;omega
      have hu2:mJ (((j+1:Nat)):Int)=j+1:=by unfold mJ;omega
      unfold eS
      simp only [Nat.add_sub_cancel]
      by_cases g:((z.az.getD i []).getD d []).getD j 0=0
      · have:=pZ (step:=fun (st:(List (List Nat)) × Int)=>cL z w d (i+1) (j+1) st.1 st.2) (n:=0) (fun _=>l.set d (lR p (z.S.getD d []) (iE z.az n d i++lc z.az d i j))) (r:=l.set d (lR p (z.S.getD d []) (iE z.az n d i++lc z.az d i j))) (by omega) (fun q hq=>by omega) (by
          unfold cL
          simp only
          have hb:decide ((((z.az.getD i []).getD d []).getD j 0)≠0)=false:=decide_eq_false (fun h=>h g)
          rw [rq zs (by omega) hd hi hj,hb,Bool.and_false,cF])
        rw [this,bS,oe,if_neg (fun h=>h g),List.append_nil]
      · have:=pZ (step:=fun (st:(List (List Nat)) × Int)=>cL z w d (i+1) (j+1) st.1 st.2) (n:=(z.S.getD d []).length) (fun q=>l.set d (lR p (z.S.getD d []) (iE z.az n d i++lc z.az d i j)++(List.range q).map fun k=>Dx p ((z.S.getD d []).getD k []) ⟨((i:Nat):Int),((j:Nat):Int)⟩)) (r:=l.set d (lR p (z.S.getD d []) (iE z.az n d i++lc z.az d i j)++(List.range (z.S.getD d []).length).map fun k=>Dx p ((z.S.getD d []).getD k []) ⟨((i:Nat):Int),((j:Nat):Int)⟩)) (by omega) (fun q hq=>by
          unfold cL
          simp only
          rw [rq zs (by omega) hd hi hj,decide_eq_true (show ((q:Nat):Int) < _ by omega),decide_eq_true g,Bool.and_self,cT,ix [] (by rw [List.length_set];omega),bS,ix [] (by rw [zs.S.len];exact hd),bS,aO [] (by omega) (by omega),bS,Int.toNat_natCast,bS,bS,hu1,hu2,hP,HN hp (zs.S.mat d hd q hq) (by omega) (by omega) (by omega),bS,hg,aY (by rw [List.length_append,List.length_map,List.length_range];simp only [List.length_cons,List.length_nil];omega) (by rw [List.length_append,List.length_map,List.length_range];simp only [List.length_cons,List.length_nil];omega),bS,bS,bk (by omega) (by omega),bS,List.set_set,List.append_assoc,List.range_succ,List.map_append]
          rfl) (by
          unfold cL
          simp only
          rw [rq zs (by omega) hd hi hj,decide_eq_false (by omega),Bool.false_and,cF])
        simp only [List.range_zero,List.map_nil,List.append_nil] at this
        rw [this,bS,oe,if_pos g,← List.append_assoc,C7 (l:=iE z.az n d i++lc z.az d i j),C9])
    simp only [Nat.sub_self,vu,List.append_nil,Nat.add_sub_cancel_left] at e2
    simp only [Nat.add_sub_cancel]
    rw [e2,bS,← sM])
  simp only [Nat.sub_self,xk,Nat.add_sub_cancel_left] at e
  have h1:l.set d (lR p (z.S.getD d []) [])=l:=by
    have:lR p (z.S.getD d []) []=[]:=rfl
    rw [this,← h0];exact fj (by omega)
  rw [h1] at e
  rw [e,bS]
end
end Pu

/- Plain laws of the reference of chapter 19: accusations. -/
set_option linter.unusedVariables false
namespace Pu
open Gw Gl Sp
/-- what contradicts among the first c pairs, and the first k values of the next -/
def Vc (p n:Nat) (z:am) (h:List Nat) (x d c k:Nat):Prop:=(∃ q,q < c∧∃ k',k' < (z.S.getD d []).length∧Vi p n z h x d q k') ∨ ∃ k',k' < k∧Vi p n z h x d c k'
theorem vU {p n:Nat} {z:am} {h:List Nat} {x d c k:Nat}:Vc p n z h x d c (k+1) ↔ Vc p n z h x d c k ∨ Vi p n z h x d c k:=by
  unfold Vc
  refine ⟨fun g=>?_,fun g=>?_⟩
  · rcases g with g | ⟨k',h1,h2⟩
    · exact .inl (.inl g)
    · by_cases e:k'=k
      · subst e;exact .inr h2
      · exact .inl (.inr ⟨k',by omega,h2⟩)
  · rcases g with (g | ⟨k',h1,h2⟩) | g
    · exact .inl g
    · exact .inr ⟨k',by omega,h2⟩
    · exact .inr ⟨k,by omega,g⟩
theorem DI {p n:Nat} {z:am} {h:List Nat} {x d c:Nat}:Vc p n z h x d c (z.S.getD d []).length ↔ Vc p n z h x d (c+1) 0:=by
  unfold Vc
  refine ⟨fun g=>?_,fun g=>?_⟩
  · rcases g with ⟨q,h1,h2⟩ | ⟨k',h1,h2⟩
    · exact .inl ⟨q,by omega,h2⟩
    · exact .inl ⟨c,by omega,k',h1,h2⟩
  · rcases g with ⟨q,h1,k',h2,h3⟩ | ⟨k',h1,h2⟩
    · by_cases e:q=c
      · subst e;exact .inr ⟨k',h2,h3⟩
      · exact .inl ⟨q,by omega,k',h2,h3⟩
    · omega
theorem DJ {p n:Nat} {z:am} {h:List Nat} {x d:Nat}:¬ Vc p n z h x d 0 0:=by
  rintro (⟨q,h1,_⟩ | ⟨k,h1,_⟩) <;> omega
theorem Is {p n:Nat} {z:am} {h:List Nat} {x d:Nat}:Vc p n z h x d (iE z.az n d n).length 0 ↔ Wr p n z x d (got h (z.S.getD d []).length (iE z.az n d n).length):=by
  unfold Vc Vi Wr
  refine ⟨fun g=>?_,fun ⟨q,h1,r,h2,k,h3,h4⟩=>.inl ⟨q,h1,k,h3,r,h2,?_⟩⟩
  · rcases g with ⟨q,h1,k,h2,r,h3,h4⟩ | ⟨k,h1,_⟩
    · exact ⟨q,h1,r,h3,k,h2,by rw [wx h1 h2];exact h4⟩
    · omega
  · rw [wx h1 h3] at h4;exact h4
section
variable {p:Nat} [NeZero p] {n t:Nat}
/-- one value -/
theorem FC (hp:iD p) {z:am} (zs:Zs p n t z) (hn:n≤7) (ht:t≤2) {h:List Nat} {x d i j k v:Nat} (hx:x < n) (hd:d < n) (hi:i < n) (hj:j < n) (hk:k < (z.S.getD d []).length) (hf:((z.az.getD i []).getD d []).getD j 0≠0) (hv:v=h.getD ((iE z.az n d i++lc z.az d i j).length*(z.S.getD d []).length+k) 0) :
    ∃ b:Bool,(bif (((x+1:Nat)):Int) == (((i+1:Nat)):Int) then
        eD z.Rows ((x:Nat):Int) >>= fun x35=>x35[d]? >>= fun x36=>eD x36 ((k:Nat):Int) >>= fun x37=>some (mJ (((j+1:Nat)):Int)) >>= fun x38=>cQ p x37 x38 >>= fun r14 =>
        bif ((r14:Nat):Int) != ((v:Nat):Int) then some true else
          bif (((x+1:Nat)):Int) == (((j+1:Nat)):Int) then some (mJ (((i+1:Nat)):Int)) >>= fun x39=>cQ p x37 x39 >>= fun r15=>some (((r15:Nat):Int) != ((v:Nat):Int)) else some false
      else
        bif (((x+1:Nat)):Int) == (((j+1:Nat)):Int) then
          eD z.Rows ((x:Nat):Int) >>= fun x40=>x40[d]? >>= fun x41=>eD x41 ((k:Nat):Int) >>= fun x42=>some (mJ (((i+1:Nat)):Int)) >>= fun x43=>cQ p x42 x43 >>= fun r16=>some (((r16:Nat):Int) != ((v:Nat):Int))
        else some false)=some b∧(b=true ↔ Vi p n z h x d (iE z.az n d i++lc z.az d i j).length k):=by
  have hlt:=hp.lt
  have hu1:mJ (((i+1:Nat)):Int)=i+1:=by unfold mJ;omega
  have hu2:mJ (((j+1:Nat)):Int)=j+1:=by unfold mJ;omega
  obtain ⟨_,hD⟩:=BK hi hj hf
  have hm:=zs.R.many x hx d hd
  obtain ⟨w1,w2⟩:=zs.R.w x hx d hd k hk
  have r1:eD z.Rows ((x:Nat):Int)=some (z.Rows.getD x []):=by rw [aO [] (by omega) (by rw [zs.R.len];omega),Int.toNat_natCast]
  have r2:(z.Rows.getD x [])[d]?=some ((z.Rows.getD x []).getD d []):=ix [] (by rw [zs.R.row x hx];exact hd)
  have r3:eD ((z.Rows.getD x []).getD d []) ((k:Nat):Int)=some (((z.Rows.getD x []).getD d []).getD k []):=by rw [aO [] (by omega) (by rw [hm];omega),Int.toNat_natCast]
  have e1:=sW hp w2 (by omega) (show i+1 < p by omega)
  have e2:=sW hp w2 (by omega) (show j+1 < p by omega)
  have hV:Vi p n z h x d (iE z.az n d i++lc z.az d i j).length k ↔ (x=i∧kD p (((z.Rows.getD x []).getD d []).getD k []) (j+1)≠v) ∨ (x=j∧kD p (((z.Rows.getD x []).getD d []).getD k []) (i+1)≠v):=by
    unfold Vi
    rw [hD,← hv]
    exact Fi (Q:=fun y=>kD p (((z.Rows.getD x []).getD d []).getD k []) (y+1)≠v)
  rw [hV]
  have hq:∀ a b:Nat,((((a:Nat):Int) != ((b:Nat):Int))=true ↔ a≠b):=fun a b=>by
    by_cases g:a=b
    · subst g;rw [qF rfl];simp
    · rw [qT (by omega)];simp [g]
  by_cases g1:x=i
  · rw [zz (by rw [g1]),cT,r1,bS,r2,bS,r3,bS,bS,hu2,e2,bS]
    by_cases g2:kD p (((z.Rows.getD x []).getD d []).getD k []) (j+1)=v
    · rw [qF (by rw [g2]),cF]
      by_cases g3:x=j
      · rw [zz (by rw [g3]),cT,bS,hu1,e1,bS]
        exact ⟨_,rfl,by rw [hq];exact ⟨fun g=>.inr ⟨g3,g⟩,fun g=>g.elim (fun g=>absurd g2 g.2) (fun g=>g.2)⟩⟩
      · rw [Ij (by omega),cF]
        exact ⟨_,rfl,⟨(fun g=>by cases g),fun g=>g.elim (fun g=>absurd g2 g.2) (fun g=>absurd g.1 g3)⟩⟩
    · rw [qT (by omega),cT]
      exact ⟨_,rfl,⟨fun _=>.inl ⟨g1,g2⟩,fun _=>rfl⟩⟩
  · rw [Ij (by omega),cF]
    by_cases g3:x=j
    · rw [zz (by rw [g3]),cT,r1,bS,r2,bS,r3,bS,bS,hu1,e1,bS]
      exact ⟨_,rfl,by rw [hq];exact ⟨fun g=>.inr ⟨g3,g⟩,fun g=>g.elim (fun g=>absurd g.1 g1) (fun g=>g.2)⟩⟩
    · rw [Ij (by omega),cF]
      exact ⟨_,rfl,⟨(fun g=>by cases g),fun g=>g.elim (fun g=>absurd g.1 g1) (fun g=>absurd g.1 g3)⟩⟩
/-- one dealer -/
theorem CV (hp:iD p) {w:ab} {z:am} (zs:Zs p n t z) (hn:n≤7) (ht:t≤2) (hN:w.S.N=(n:Int)) (hP:w.S.P=p) {r7:(List (List Nat)) × Int × (List (List af))} (h7:r7.1.length=n) {x d:Nat} (hx:x < n) (hd:d < n) (hl7:(r7.1.getD d []).length≤1000) {l:List (List Nat)} {row:List Nat} (hl:l.length=n) (hr:row.length=n) (h0:row.getD d 0=0) :
    dy z w r7 (x+1) ((x:Nat):Int) d (l.set x row)=some (l.set x (row.set d (bt (Wr p n z x d (got (r7.1.getD d []) (z.S.getD d []).length (iE z.az n d n).length))))):=by
  have hlt:=hp.lt
  have hmx:max 1 (((n:Nat):Int)+1).toNat - 1=n:=by omega
  have hm:=zs.S.many d hd
  generalize hh:r7.1.getD d []=h at *
  generalize hst:(fun (c k:Nat)=>((l.set x (row.set d (bt (Vc p n z h x d c k)))),h.drop (c*(z.S.getD d []).length+k)))=st
  have hs:∀ c k,st c k=((l.set x (row.set d (bt (Vc p n z h x d c k)))),h.drop (c*(z.S.getD d []).length+k)):=fun c k=>by rw [← hst]
  have hnext:∀ c,st c (z.S.getD d []).length=st (c+1) 0:=fun c=>by
    rw [hs,hs,iF DI,Nat.add_mul,Nat.one_mul];rfl
  have hg:∀ y,(l.set x y).getD x []=y:=fun y=>by rw [bb (by omega),if_pos rfl]
  have hdl:(iE z.az n d n).length≤49:=Nat.le_trans pV (Nat.mul_le_mul hn hn)
  unfold dy
  rw [ix [] (by rw [h7];exact hd),bS,hh,hN,hmx]
  have e:=oP (body:=fun k6 (s:(List (List Nat)) × (List Nat))=>eV z w (x+1) ((x:Nat):Int) d k6 s.1 s.2) (fun k=>st (iE z.az n d (k - 1)).length 0) (n:=n) (a:=1) (fun k h1 h2=>by
    obtain ⟨i,rfl⟩:∃ i,k=i+1:=⟨k - 1,by omega⟩
    have hi:i < n:=by omega
    unfold eV
    rw [hN,hmx]
    have e2:=oP (body:=fun k7 (s:(List (List Nat)) × (List Nat))=>eW z w (x+1) ((x:Nat):Int) d (i+1) k7 s.1 s.2) (fun k=>st (iE z.az n d i++lc z.az d i (k - 1)).length 0) (n:=n) (a:=1) (fun k h3 h4=>by
      obtain ⟨j,rfl⟩:∃ j,k=j+1:=⟨k - 1,by omega⟩
      have hj:j < n:=by omega
      unfold eW
      simp only [Nat.add_sub_cancel]
      by_cases g:((z.az.getD i []).getD d []).getD j 0=0
      · have hb:decide ((((z.az.getD i []).getD d []).getD j 0)≠0)=false:=decide_eq_false (fun h=>h g)
        have:=n3 (step:=fun (s:(List (List Nat)) × (List Nat) × Int)=>cM z w (x+1) ((x:Nat):Int) d (i+1) (j+1) s.1 s.2.1 s.2.2) (n:=0) (fun k s=>s=((st (iE z.az n d i++lc z.az d i j).length 0).1,(st (iE z.az n d i++lc z.az d i j).length 0).2,((0:Nat):Int))) (fun r=>r=st (iE z.az n d i++lc z.az d i j).length 0) (by omega) rfl (fun k s hk _=>by omega) (fun s h=>by
          rw [h]
          unfold cM
          simp only
          rw [rq zs (by omega) hd hi hj,hb,Bool.and_false,cF]
          exact ⟨_,rfl,rfl⟩)
        obtain ⟨r,e,hr⟩:=this
        rw [e,bS,hr,oe,if_neg (fun h=>h g),List.append_nil]
      · generalize hc:(iE z.az n d i++lc z.az d i j).length=c
        obtain ⟨hcl,_⟩:=BK hi hj g
        rw [hc] at hcl
        have hlast:(iE z.az n d i++lc z.az d i (j+1)).length=c+1:=by
          rw [oe,if_pos g,← List.append_assoc,List.length_append,hc];rfl
        obtain ⟨r,e,hr⟩:=n3 (step:=fun (s:(List (List Nat)) × (List Nat) × Int)=>cM z w (x+1) ((x:Nat):Int) d (i+1) (j+1) s.1 s.2.1 s.2.2) (n:=(z.S.getD d []).length) (fun k s=>s=((st c k).1,(st c k).2,((k:Nat):Int))) (fun r=>r=st c (z.S.getD d []).length) (by omega) rfl (fun k s hk h=>by
          rw [h]
          have hcm:c*(z.S.getD d []).length+k≤49*10+10:=Nat.add_le_add (Nat.mul_le_mul (by omega) hm) (by omega)
          obtain ⟨b,eb,hb⟩:=FC hp zs hn ht (h:=‹List Nat›) (x:=x) (d:=d) (i:=i) (j:=j) (k:=k) hx hd hi hj hk g rfl
          rw [hc] at eb hb
          have hgd:(rz ((st c k).2) 1)[0]?=some ((‹List Nat›).getD (c*(z.S.getD d []).length+k) 0):=by
            rw [ix 0 (by rw [sB];omega),sA (by omega),hs]
            simp only
            rw [List.getD_eq_getElem?_getD,List.getElem?_drop,Nat.add_zero,← List.getD_eq_getElem?_getD]
          unfold cM
          simp only
          rw [rq zs (by omega) hd hi hj,decide_eq_true (show ((k:Nat):Int) < _ by omega),decide_eq_true g,Bool.and_self,cT,xU (by omega) (by rw [hs];simp only;rw [List.length_drop];omega),bS]
          simp only
          rw [hgd,bS,hP,eb,bS]
          have hdrop:((st c k).2).drop 1=(st c (k+1)).2:=by
            rw [hs,hs];simp only;rw [List.drop_drop,Nat.add_assoc]
          cases b with
          | true =>
            have hset:(st c (k+1)).1=l.set x (row.set d 1):=by
              rw [hs];simp only;rw [BF (vU.2 (.inr (hb.1 rfl)))]
            rw [cT,hs]
            simp only
            rw [aO [] (by omega) (by rw [List.length_set];omega),bS,Int.toNat_natCast,hg,ix 0 (by rw [List.length_set];omega),bS,bS,bS,bk (by omega) (by omega),bS,List.set_set,List.set_set,hset,← hdrop,hs]
            exact ⟨_,rfl,rfl⟩
          | false =>
            have hset:(st c (k+1)).1=(st c k).1:=by
              rw [hs,hs];simp only
              rw [iF (show Vc p n z _ x d c (k+1) ↔ Vc p n z _ x d c k from ⟨fun g=>(vU.1 g).resolve_right (fun v=>by have:=hb.2 v;cases this),fun g=>vU.2 (.inl g)⟩)]
            rw [cF,bk (by omega) (by omega),bS,hset,← hdrop]
            exact ⟨_,rfl,rfl⟩) (fun s h=>by
          rw [h]
          unfold cM
          simp only
          rw [rq zs (by omega) hd hi hj,decide_eq_false (show ¬ (((z.S.getD d []).length:Nat):Int) < _ by omega),Bool.false_and,cF]
          exact ⟨_,rfl,rfl⟩)
        rw [e,bS,hr,hlast,hnext])
    simp only [Nat.sub_self,vu,List.append_nil,Nat.add_sub_cancel_left] at e2
    simp only [Nat.add_sub_cancel]
    rw [e2,bS,← sM])
  simp only [Nat.sub_self,xk,Nat.add_sub_cancel_left,List.length_nil] at e
  have h1:st 0 0=(l.set x row,h):=by
    rw [hs,yq DJ,Nat.zero_mul]
    have:row.set d 0=row:=by rw [← h0];exact fj (by omega)
    rw [this];rfl
  rw [h1] at e
  rw [e,bS,hs]
  simp only
  rw [iF Is]
/-- all accusations -/
theorem Fq (hp:iD p) {w:ab} {z:am} (zs:Zs p n t z) (hn:n≤7) (ht:t≤2) (hN:w.S.N=(n:Int)) (hP:w.S.P=p) {r7:(List (List Nat)) × Int × (List (List af))} (h7:r7.1.length=n) (hl7:∀ d,d < n→(r7.1.getD d []).length≤1000) :
    cW (fun k4 (st:(List (List Nat)))=>eU z w r7 k4 st) n 1 (List.replicate n [])=some ((List.range n).map fun x=>(List.range n).map fun d=>bt (Wr p n z x d (got (r7.1.getD d []) (z.S.getD d []).length (iE z.az n d n).length))):=by
  have hmx:max 0 ((n:Nat):Int).toNat=n:=by simp
  rw [show (1:Nat)=0+1 from rfl,rB]
  refine iZ _ fun x l hx hl h0=>?_
  have ex:(((x+1:Nat)):Int) - 1=((x:Nat):Int):=by omega
  unfold eU
  rw [b8 (by omega) (by omega),bS,ex,hN,b0 (by omega) (by omega) (by omega) (by omega),bS,aO [] (by omega) (by omega),bS,bS,hmx,Nat.sub_zero,Int.toNat_natCast,Int.toNat_natCast]
  obtain ⟨st,e,row,h1,h2,h3,h4⟩:=bZ (body:=fun k5 (st:(List (List Nat)))=>dy z w r7 (x+1) ((x:Nat):Int) k5 st) (fun k st=>∃ row:List Nat,st=l.set x row∧row.length=n∧(∀ d,d < k→row.getD d 0=bt (Wr p n z x d (got (r7.1.getD d []) (z.S.getD d []).length (iE z.az n d n).length)))∧∀ d,k≤d→row.getD d 0=0) (rem:=n) (k:=0) (s:=l.set x (List.replicate n 0))
    ⟨_,rfl,by simp,fun d hd=>by omega,fun d _=>pH⟩ (fun d st _ hd ⟨row,h1,h2,h3,h4⟩=>by
      subst h1
      have hdn:d < n:=by omega
      refine ⟨_,CV hp zs hn ht hN hP h7 hx hdn (hl7 d hdn) hl h2 (h4 d (Nat.le_refl d)),_,rfl,by rw [List.length_set];exact h2,fun c hc=>?_,fun c hc=>?_⟩
      · rw [bb (by omega)]
        by_cases g:d=c
        · rw [if_pos g,g]
        · rw [if_neg g];exact h3 c (by omega)
      · rw [bb (by omega),if_neg (by omega)];exact h4 c (by omega))
  rw [Nat.zero_add] at h3
  have:row=(List.range n).map fun d=>bt (Wr p n z x d (got (r7.1.getD d []) (z.S.getD d []).length (iE z.az n d n).length)):=fp 0 h2 (by simp) fun d hd=>by rw [h3 d hd,aW hd]
  rw [e,bS,h1,this]
end
end Pu

/- Plain laws of the reference of chapter 19: public rows, objections. -/
set_option linter.unusedVariables false
namespace Pu
open Gw Gl Sp
/-- accusations as words -/
structure Ax (n:Nat) (l:List (List Nat)) (acc:List (List Bool)):Prop where
  len:l.length=n
  row:∀ i,i < n→(l.getD i []).length=n
  w:∀ i,i < n→∀ d,d < n→((l.getD i []).getD d 0≠0 ↔ ac acc d i=true)
theorem Ax.b {n:Nat} {l:List (List Nat)} {acc:List (List Bool)} (a:Ax n l acc) {i d:Nat} (hi:i < n) (hd:d < n):((((l.getD i []).getD d 0:Nat):Int) != 0)=ac acc d i:=by
  have:=a.w i hi d hd
  by_cases g:(l.getD i []).getD d 0=0
  · rw [qF (by omega)]
    cases h:ac acc d i
    · rfl
    · exact absurd g (this.2 h)
  · rw [qT (by omega),this.1 g]
section
variable {p:Nat} [NeZero p] {n t:Nat}
theorem Bi (hp:iD p) {w:ab} {z:am} (zs:Zs p n t z) (hn:n≤7) (ht:t≤2) (hN:w.S.N=(n:Int)) (hP:w.S.P=p) {l36:List (List Nat)} {acc:List (List Bool)} (ax:Ax n l36 acc) :
    cW (fun k9 (st:(List (List Nat)))=>dY z w l36 k9 st) n 0 (List.replicate n [])=some ((List.range n).map fun d=>tM p n (z.S.getD d []) (ac acc d)):=by
  have hlt:=hp.lt
  have hmx:max 1 (((n:Nat):Int)+1).toNat - 1=n:=by omega
  refine iZ _ fun d l hd hl h0=>?_
  have hm:=zs.S.many d hd
  have hg:∀ x,(l.set d x).getD d []=x:=fun x=>by rw [bb (by omega),if_pos rfl]
  unfold dY
  rw [hN,hmx]
  have e:=oP (body:=fun k10 (st:(List (List Nat)))=>dZ z w l36 d k10 st) (fun k=>l.set d (((List.range (k - 1)).map fun i=>if ac acc d i then jL p (z.S.getD d []) (i+1) else []).flatten)) (n:=n) (a:=1) (fun k h1 h2=>by
    obtain ⟨i,rfl⟩:∃ i,k=i+1:=⟨k - 1,by omega⟩
    have hi:i < n:=by omega
    have hu:mJ (((i+1:Nat)):Int)=i+1:=by unfold mJ;omega
    have ei:((i+1:Nat):Int) - 1=((i:Nat):Int):=by omega
    simp only [Nat.add_sub_cancel]
    generalize hL:((List.range i).map fun i=>if ac acc d i then jL p (z.S.getD d []) (i+1) else []).flatten=L
    have hLl:L.length≤i*30:=by
      rw [← hL]
      refine oK fun j hj=>?_
      split
      · rw [(nH hp zs.S ht hd (by omega)).1]
        exact Nat.le_trans (Nat.mul_le_mul hm (show t+1≤3 by omega)) (by decide)
      · simp
    have hcond:∀ x:Int,(z.S[d]? >>= fun x54=>bif decide (x < ((x54.length:Nat):Int)) then
        gM (((i+1:Nat)):Int) (1:Int) >>= fun x55=>eD l36 x55 >>= fun x56=>x56[d]? >>= fun x57=>some (((x57:Nat):Int) != (0:Int)) else some false)=some (decide (x < (((z.S.getD d []).length:Nat):Int)) && ac acc d i):=fun x=>by
      rw [ix [] (by rw [zs.S.len];exact hd),bS]
      by_cases g:x < (((z.S.getD d []).length:Nat):Int)
      · rw [dT g,cT,b8 (by omega) (by omega),bS,ei,aO [] (by omega) (by rw [ax.len];omega),bS,Int.toNat_natCast,ix 0 (by rw [ax.row i hi];exact hd),bS,ax.b hi hd];rfl
      · rw [dF g,cF];rfl
    have hsum:((List.range (i+1)).map fun i=>if ac acc d i then jL p (z.S.getD d []) (i+1) else []).flatten=L++if ac acc d i then jL p (z.S.getD d []) (i+1) else []:=by
      rw [List.range_succ,List.map_append,List.flatten_append,hL];simp
    unfold dZ
    rw [hsum]
    cases hb:ac acc d i
    · have:=pZ (step:=fun (st:(List (List Nat)) × Int)=>cE z w l36 d (i+1) st.1 st.2) (n:=0) (fun _=>l.set d L) (r:=l.set d L) (by omega) (fun q hq=>by omega) (by
        unfold cE
        simp only
        rw [hcond,bS,hb,Bool.and_false,cF])
      rw [this,bS,if_neg (by decide),List.append_nil]
    · have:=pZ (step:=fun (st:(List (List Nat)) × Int)=>cE z w l36 d (i+1) st.1 st.2) (n:=(z.S.getD d []).length) (fun q=>l.set d (L++((List.range q).map fun k=>Rw p ((z.S.getD d []).getD k []) (i+1)).flatten)) (r:=l.set d (L++jL p (z.S.getD d []) (i+1))) (by omega) (fun q hq=>by
        obtain ⟨_,r1,r2,_,_⟩:=nf hp (zs.S.mat d hd q hq) (by omega) (show i+1 < p by omega)
        have hql:(((List.range q).map fun k=>Rw p ((z.S.getD d []).getD k []) (i+1)).flatten).length=q*(t+1):=ou (fun k' hk'=>(nf hp (zs.S.mat d hd k' (by omega)) (by omega) (show i+1 < p by omega)).2.2.1)
        have:q*(t+1)≤10*3:=Nat.mul_le_mul (by omega) (by omega)
        unfold cE
        simp only
        rw [hcond,bS,hb,Bool.and_true,decide_eq_true (by omega),cT,ix [] (by rw [List.length_set];omega),bS,hg,ix [] (by rw [zs.S.len];exact hd),bS,aO [] (by omega) (by omega),bS,Int.toNat_natCast,bS,hu,hP,r1,bS,aY (by rw [List.length_append];omega) (by rw [List.length_append];omega),bS,bS,bk (by omega) (by omega),bS,List.set_set,List.append_assoc,List.range_succ,List.map_append,List.flatten_append]
        simp only [List.map_cons,List.map_nil,List.flatten_cons,List.flatten_nil,List.append_nil]
        rfl) (by
        unfold cE
        simp only
        rw [hcond,bS,decide_eq_false (by omega),Bool.false_and,cF];rfl)
      simp only [List.range_zero,List.map_nil,List.flatten_nil,List.append_nil] at this
      rw [this,bS,if_pos rfl])
  simp only [Nat.sub_self,List.range_zero,List.map_nil,List.flatten_nil,Nat.add_sub_cancel_left] at e
  have h1:l.set d []=l:=by rw [← h0];exact fj (by omega)
  rw [h1] at e
  rw [e,bS];rfl
end
theorem Bj {p n t:Nat} {w:ab} {z:am} (zs:Zs p n t z) (hn:n≤7) (ht:t≤2) (hN:w.S.N=(n:Int)) (hT:w.S.T=(t:Int)) {l36:List (List Nat)} {acc:List (List Bool)} (ax:Ax n l36 acc) {r24:(List (List Nat)) × Int × (List (List af))} (h1:r24.1.length=n) (h2:∀ d,d < n→(r24.1.getD d []).length≤1000) :
    cW (fun k11 (st:(List (List (List (List Nat)))))=>ee z w l36 r24 k11 st) n 0 (List.replicate n [])=some ((List.range n).map fun d=>(List.range n).map (vn (r24.1.getD d []) (ac acc d) t (z.S.getD d []).length)):=by
  have hmx:max 0 ((n:Nat):Int).toNat=n:=by simp
  have et:((t:Nat):Int)+1=((t+1:Nat):Int):=by omega
  refine iZ _ fun d l hd hl h0=>?_
  have hm:=zs.S.many d hd
  have tW:=h2 d hd
  generalize hh:r24.1.getD d []=h at *
  have hg:∀ x,(l.set d x).getD d []=x:=fun x=>by rw [bb (by omega),if_pos rfl]
  unfold ee
  rw [ix [] (by omega),bS,hh,hN,b0 (by omega) (by omega) (by omega) (by omega),bS,ix [] (by omega),bS,bS,hmx,Nat.sub_zero,Int.toNat_natCast]
  obtain ⟨⟨st1,st2⟩,e,rows,g1,g2,g3,g4,g5⟩:=bZ (body:=fun k12 (st:(List (List (List (List Nat)))) × (List Nat))=>ef z w l36 d k12 st.1 st.2) (rem:=n) (k:=0) (s:=(l.set d (List.replicate n []),h))
    (fun a st=>∃ rows:List (List (List Nat)),st.1=l.set d rows∧st.2=h.drop (cnt (ac acc d) a*((z.S.getD d []).length*(t+1)))∧rows.length=n∧(∀ b,b < a→rows.getD b []=vn h (ac acc d) t (z.S.getD d []).length b)∧∀ b,a≤b→rows.getD b []=[])
    ⟨_,rfl,by simp [cnt],by simp,fun b hb=>by omega,fun b _=>pH⟩ (fun a st _ ha ⟨rows,g1,g2,g3,g4,g5⟩=>by
      obtain ⟨st1,st2⟩:=st
      simp only at g1 g2
      subst g1;subst g2
      have han:a < n:=by omega
      generalize hL:h.drop (cnt (ac acc d) a*((z.S.getD d []).length*(t+1)))=L
      have hLl:L.length≤1000:=by rw [← hL,List.length_drop];omega
      have hcond:∀ x:Int,(z.S[d]? >>= fun x69=>bif decide (x < ((x69.length:Nat):Int)) then l36[a]? >>= fun x70=>x70[d]? >>= fun x71=>some (((x71:Nat):Int) != (0:Int)) else some false)=some (decide (x < (((z.S.getD d []).length:Nat):Int)) && ac acc d a):=fun x=>by
        rw [ix [] (by rw [zs.S.len];exact hd),bS]
        by_cases g:x < (((z.S.getD d []).length:Nat):Int)
        · rw [dT g,cT,ix [] (by rw [ax.len];exact han),bS,ix 0 (by rw [ax.row a han];exact hd),bS,ax.b han hd];rfl
        · rw [dF g,cF];rfl
      simp only
      unfold ef
      cases hb:ac acc d a
      · obtain ⟨r,e,hr⟩:=n3 (step:=fun (st:(List (List (List (List Nat)))) × (List Nat) × Int)=>cG z w l36 d a st.1 st.2.1 st.2.2) (n:=0) (fun _ s=>s=(l.set d rows,L,((0:Nat):Int))) (fun r=>r=(l.set d rows,L)) (by omega) rfl (fun k s hk _=>by omega) (fun s h=>by
          rw [h]
          unfold cG
          simp only
          rw [hcond,bS,hb,Bool.and_false,cF]
          exact ⟨_,rfl,rfl⟩)
        rw [e,bS,hr]
        refine ⟨_,rfl,rows,rfl,by rw [jB,hb,← hL];rfl,g3,fun b hb2=>?_,fun b hb2=>g5 b (by omega)⟩
        by_cases gb:b=a
        · subst gb;rw [g5 b (Nat.le_refl b)];unfold vn;rw [hb];rfl
        · exact g4 b (by omega)
      · obtain ⟨r, e, hr⟩ := n3 (step := fun (st : (List (List (List (List Nat)))) × (List Nat) × Int) => cG z w l36 d a st.1 st.2.1 st.2.2) (n := (z.S.getD d []).length) (fun q s => s = (l.set d (rows.set a (got L (t + 1) q)), L.drop (q * (t + 1)), ((q : Nat) : Int))) (fun r => r = (l.set d (rows.set a (got L (t + 1) (z.S.getD d []).length)), L.drop ((z.S.getD d []).length * (t + 1)))) (s := (l.set d rows, L, ((0 : Nat) : Int))) (by omega) (by
            have:rows.set a []=rows:=by rw [← g5 a (Nat.le_refl a)];exact fj (by omega)
            rw [Nat.zero_mul]
            show _=(l.set d (rows.set a []),L,((0:Nat):Int))
            rw [this]) (fun q s hq h=>by
          rw [h]
          unfold cG
          simp only
          rw [hcond,bS,hb,Bool.and_true,decide_eq_true (by omega),cT,ix [] (by rw [List.length_set];omega),bS,hg,ix [] (by rw [List.length_set];omega),bS,bb (by omega),if_pos rfl,hT,bk (by omega) (by omega),et,bS,xU (by omega) (by rw [List.length_drop];omega),bS,aY (by rw [lJ];simp only [List.length_cons,List.length_nil];omega) (by rw [lJ];simp only [List.length_cons,List.length_nil];omega),bS,bS,bS,bk (by omega) (by omega),bS,List.set_set,List.set_set]
          refine ⟨_,rfl,?_⟩
          have h1:got L (t+1) q++[rz (L.drop (q*(t+1))) (t+1)]=got L (t+1) (q+1):=uT
          simp only
          rw [h1,List.drop_drop,Nat.add_mul,Nat.one_mul]
          rfl) (fun s h=>by
          rw [h]
          unfold cG
          simp only
          rw [hcond,bS,decide_eq_false (by omega),Bool.false_and,cF]
          exact ⟨_,rfl,rfl⟩)
        rw [e,bS,hr]
        refine ⟨_,rfl,_,rfl,?_,by rw [List.length_set];exact g3,fun b hb2=>?_,fun b hb2=>?_⟩
        · simp only
          rw [← hL,List.drop_drop,jB,hb,if_pos rfl,Nat.add_mul,Nat.one_mul]
        · rw [bb (by omega)]
          by_cases gb:a=b
          · rw [if_pos gb,← gb];unfold vn;rw [hb,if_pos rfl,hL]
          · rw [if_neg gb];exact g4 b (by omega)
        · rw [bb (by omega),if_neg (by omega)];exact g5 b (by omega))
  rw [Nat.zero_add] at g4
  simp only at g1
  have:rows=(List.range n).map (vn h (ac acc d) t (z.S.getD d []).length):=fp [] g3 (by simp) fun b hb=>by rw [g4 b hb,aW hb]
  rw [e,bS,g1,this]
end Pu

/- Plain laws of the reference of chapter 19: objections, the end, the whole of sharing. -/
set_option linter.unusedVariables false
namespace Pu
open Gw Gl Sp
/-- what has been found to contradict before the k-th row of accuser a -/
def Oc (p n:Nat) (R told:List (List (List (List Nat)))) (acc:List (List Bool)) (x d a k:Nat):Prop:=ac acc d x=false ∧
  ((∃ a',a' < a∧∃ k',k' < ((told.getD d []).getD a' []).length∧kD p (((told.getD d []).getD a' []).getD k' []) (x+1)≠kD p (((R.getD x []).getD d []).getD k' []) (a'+1)) ∨ ∃ k',k' < k∧kD p (((told.getD d []).getD a []).getD k' []) (x+1)≠kD p (((R.getD x []).getD d []).getD k' []) (a+1))
theorem vR {p n:Nat} {R told:List (List (List (List Nat)))} {acc:List (List Bool)} {x d a k:Nat} (h0:ac acc d x=false):Oc p n R told acc x d a (k+1) ↔ Oc p n R told acc x d a k ∨ kD p (((told.getD d []).getD a []).getD k []) (x+1)≠kD p (((R.getD x []).getD d []).getD k []) (a+1):=by
  unfold Oc
  refine ⟨fun ⟨_,g⟩=>?_,fun g=>?_⟩
  · rcases g with g | ⟨k',h1,h2⟩
    · exact .inl ⟨h0,.inl g⟩
    · by_cases e:k'=k
      · subst e;exact .inr h2
      · exact .inl ⟨h0,.inr ⟨k',by omega,h2⟩⟩
  · rcases g with ⟨_,g | ⟨k',h1,h2⟩⟩ | g
    · exact ⟨h0,.inl g⟩
    · exact ⟨h0,.inr ⟨k',by omega,h2⟩⟩
    · exact ⟨h0,.inr ⟨k,by omega,g⟩⟩
theorem DC {p n:Nat} {R told:List (List (List (List Nat)))} {acc:List (List Bool)} {x d a:Nat}:Oc p n R told acc x d a ((told.getD d []).getD a []).length ↔ Oc p n R told acc x d (a+1) 0:=by
  unfold Oc
  refine ⟨fun ⟨h0,g⟩=>⟨h0,?_⟩,fun ⟨h0,g⟩=>⟨h0,?_⟩⟩
  · rcases g with ⟨q,h1,h2⟩ | ⟨k',h1,h2⟩
    · exact .inl ⟨q,by omega,h2⟩
    · exact .inl ⟨a,by omega,k',h1,h2⟩
  · rcases g with ⟨q,h1,k',h2,h3⟩ | ⟨k',h1,h2⟩
    · by_cases e:q=a
      · subst e;exact .inr ⟨k',h2,h3⟩
      · exact .inl ⟨q,by omega,k',h2,h3⟩
    · omega
theorem DD {p n:Nat} {R told:List (List (List (List Nat)))} {acc:List (List Bool)} {x d:Nat}:¬ Oc p n R told acc x d 0 0:=by
  rintro ⟨_,⟨q,h1,_⟩ | ⟨k,h1,_⟩⟩ <;> omega
theorem Ip {p n:Nat} {R told:List (List (List (List Nat)))} {acc:List (List Bool)} {x d:Nat}:Oc p n R told acc x d n 0 ↔ Ob p n R told acc x d:=by
  unfold Oc Ob
  refine ⟨fun ⟨h0,g⟩=>⟨h0,?_⟩,fun ⟨h0,g⟩=>⟨h0,.inl g⟩⟩
  rcases g with g | ⟨k,h1,_⟩
  · exact g
  · omega
section
variable {p:Nat} [NeZero p] {n t:Nat}
theorem Bb (hp:iD p) {w:ab} {z:am} (zs:Zs p n t z) (hn:n≤7) (ht:t≤2) (hN:w.S.N=(n:Int)) (hP:w.S.P=p) {l36:List (List Nat)} {acc:List (List Bool)} (ax:Ax n l36 acc) {told:List (List (List (List Nat)))} (td:Td p n t (fun d=>(z.S.getD d []).length) acc told) {x d:Nat} (hx:x < n) (hd:d < n) {l:List (List Nat)} {row:List Nat} (hl:l.length=n) (hr:row.length=n) (h0:row.getD d 0=0) :
    dj z w l36 told (x+1) ((x:Nat):Int) d (l.set x row)=some (l.set x (row.set d (bt (Ob p n z.Rows told acc x d)))):=by
  have hlt:=hp.lt
  have hmx:max 1 (((n:Nat):Int)+1).toNat - 1=n:=by omega
  have hm:=zs.S.many d hd
  have hg:∀ y,(l.set x y).getD x []=y:=fun y=>by rw [bb (by omega),if_pos rfl]
  have hux:mJ (((x+1:Nat)):Int)=x+1:=by unfold mJ;omega
  unfold dj
  rw [hN,hmx]
  have e:=oP (body:=fun k15 (st:(List (List Nat)))=>em z w l36 told (x+1) ((x:Nat):Int) d k15 st) (fun k=>l.set x (row.set d (bt (Oc p n z.Rows told acc x d (k - 1) 0)))) (n:=n) (a:=1) (fun k h1 h2=>by
    obtain ⟨a,rfl⟩:∃ a,k=a+1:=⟨k - 1,by omega⟩
    have ha:a < n:=by omega
    have hua:mJ (((a+1:Nat)):Int)=a+1:=by unfold mJ;omega
    have ea:((a+1:Nat):Int) - 1=((a:Nat):Int):=by omega
    have t1:told[d]?=some (told.getD d []):=ix [] (by rw [td.len];exact hd)
    have t2:eD (told.getD d []) ((a:Nat):Int)=some ((told.getD d []).getD a []):=by rw [aO [] (by omega) (by rw [td.row d hd];omega),Int.toNat_natCast]
    have hcond:∀ y:Int,(told[d]? >>= fun x83=>gM (((a+1:Nat)):Int) (1:Int) >>= fun x84=>eD x83 x84 >>= fun x85 =>
        bif decide (y < ((x85.length:Nat):Int)) then eD l36 ((x:Nat):Int) >>= fun x86=>x86[d]? >>= fun x87=>some (((x87:Nat):Int) == (0:Int)) else some false)=some (decide (y < ((((told.getD d []).getD a []).length:Nat):Int)) && !ac acc d x):=fun y=>by
      rw [t1,bS,b8 (by omega) (by omega),bS,ea,t2,bS]
      by_cases g:y < ((((told.getD d []).getD a []).length:Nat):Int)
      · rw [dT g,cT,aO [] (by omega) (by rw [ax.len];omega),bS,Int.toNat_natCast,ix 0 (by rw [ax.row x hx];exact hd),bS,← ax.b hx hd]
        by_cases g2:((l36.getD x []).getD d 0)=0
        · rw [eT (by omega),qF (by omega)];rfl
        · rw [eF (by omega),qT (by omega)];rfl
      · rw [dF g,cF];rfl
    simp only [Nat.add_sub_cancel]
    unfold em
    cases hb:ac acc d x
    · have hlen:((told.getD d []).getD a []).length≤10:=by
        cases hb2:ac acc d a
        · rw [td.no d hd a ha hb2];simp
        · rw [td.many d hd a ha hb2];exact hm
      have:=pZ (step:=fun (st:(List (List Nat)) × Int)=>cH z w l36 told (x+1) ((x:Nat):Int) d (a+1) st.1 st.2) (n:=((told.getD d []).getD a []).length) (fun k=>l.set x (row.set d (bt (Oc p n z.Rows told acc x d a k)))) (r:=l.set x (row.set d (bt (Oc p n z.Rows told acc x d a ((told.getD d []).getD a []).length)))) (by omega) (fun k hk=>by
        have hba:ac acc d a=true:=by
          cases h2:ac acc d a
          · rw [td.no d hd a ha h2] at hk;simp at hk
          · rfl
        have hk2:k < (z.S.getD d []).length:=by rw [td.many d hd a ha hba] at hk;exact hk
        obtain ⟨u1,u2⟩:=td.w d hd a ha hba k hk2
        obtain ⟨w1,w2⟩:=zs.R.w x hx d hd k hk2
        unfold cH
        simp only
        rw [hcond,bS,hb,Bool.not_false,Bool.and_true,decide_eq_true (by omega),cT,t1,bS,b8 (by omega) (by omega),bS,ea,t2,bS,aO [] (by omega) (by omega),bS,Int.toNat_natCast,bS,hux,hP,sW hp u2 (by omega) (by omega),bS,aO [] (by omega) (by rw [zs.R.len];omega),bS,Int.toNat_natCast,ix [] (by rw [zs.R.row x hx];exact hd),bS,aO [] (by omega) (by rw [zs.R.many x hx d hd];omega),bS,Int.toNat_natCast,bS,hua,sW hp w2 (by omega) (by omega),bS]
        by_cases gv:kD p (((told.getD d []).getD a []).getD k []) (x+1)=kD p (((z.Rows.getD x []).getD d []).getD k []) (a+1)
        · rw [qF (by rw [gv]),cF,bk (by omega) (by omega),bS]
          rw [iF (show Oc p n z.Rows told acc x d a (k+1) ↔ Oc p n z.Rows told acc x d a k from ⟨fun g=>((vR hb).1 g).resolve_right (fun v=>v gv),fun g=>(vR hb).2 (.inl g)⟩)]
          rfl
        · rw [qT (by omega),cT,aO [] (by omega) (by rw [List.length_set];omega),bS,Int.toNat_natCast,hg,ix 0 (by rw [List.length_set];omega),bS,bS,bS,bk (by omega) (by omega),bS,List.set_set,List.set_set,BF ((vR hb).2 (.inr gv))]
          rfl) (by
        unfold cH
        simp only
        rw [hcond,bS,decide_eq_false (by omega),Bool.false_and,cF])
      rw [this,bS,iF DC]
    · have:=pZ (step:=fun (st:(List (List Nat)) × Int)=>cH z w l36 told (x+1) ((x:Nat):Int) d (a+1) st.1 st.2) (n:=0) (fun _=>l.set x (row.set d (bt (Oc p n z.Rows told acc x d a 0)))) (r:=l.set x (row.set d (bt (Oc p n z.Rows told acc x d a 0)))) (by omega) (fun q hq=>by omega) (by
        unfold cH
        simp only
        rw [hcond,bS,hb,Bool.not_true,Bool.and_false,cF])
      rw [this,bS,yq (fun g=>by rw [g.1] at hb;cases hb),yq (fun g=>by rw [g.1] at hb;cases hb)])
  simp only [Nat.sub_self,Nat.add_sub_cancel_left] at e
  have h1:l.set x (row.set d (bt (Oc p n z.Rows told acc x d 0 0)))=l.set x row:=by
    rw [yq DD]
    have:row.set d 0=row:=by rw [← h0];exact fj (by omega)
    rw [this]
  rw [h1] at e
  rw [e,bS,iF Ip]
theorem FB (hp:iD p) {w:ab} {z:am} (zs:Zs p n t z) (hn:n≤7) (ht:t≤2) (hN:w.S.N=(n:Int)) (hP:w.S.P=p) {l36:List (List Nat)} {acc:List (List Bool)} (ax:Ax n l36 acc) {told:List (List (List (List Nat)))} (td:Td p n t (fun d=>(z.S.getD d []).length) acc told) :
    cW (fun k13 (st:(List (List Nat)))=>eg z w l36 told k13 st) n 1 (List.replicate n [])=some ((List.range n).map fun x=>(List.range n).map fun d=>bt (Ob p n z.Rows told acc x d)):=by
  have hmx:max 0 ((n:Nat):Int).toNat=n:=by simp
  rw [show (1:Nat)=0+1 from rfl,rB]
  refine iZ _ fun x l hx hl h0=>?_
  have ex:(((x+1:Nat)):Int) - 1=((x:Nat):Int):=by omega
  unfold eg
  rw [b8 (by omega) (by omega),bS,ex,hN,b0 (by omega) (by omega) (by omega) (by omega),bS,aO [] (by omega) (by omega),bS,bS,hmx,Nat.sub_zero,Int.toNat_natCast,Int.toNat_natCast]
  obtain ⟨st,e,row,h1,h2,h3,h4⟩:=bZ (body:=fun k14 (st:(List (List Nat)))=>dj z w l36 told (x+1) ((x:Nat):Int) k14 st) (fun k st=>∃ row:List Nat,st=l.set x row∧row.length=n∧(∀ d,d < k→row.getD d 0=bt (Ob p n z.Rows told acc x d))∧∀ d,k≤d→row.getD d 0=0) (rem:=n) (k:=0) (s:=l.set x (List.replicate n 0))
    ⟨_,rfl,by simp,fun d hd=>by omega,fun d _=>pH⟩ (fun d st _ hd ⟨row,h1,h2,h3,h4⟩=>by
      subst h1
      have hdn:d < n:=by omega
      refine ⟨_,Bb hp zs hn ht hN hP ax td hx hdn hl h2 (h4 d (Nat.le_refl d)),_,rfl,by rw [List.length_set];exact h2,fun c hc=>?_,fun c hc=>?_⟩
      · rw [bb (by omega)]
        by_cases g:d=c
        · rw [if_pos g,g]
        · rw [if_neg g];exact h3 c (by omega)
      · rw [bb (by omega),if_neg (by omega)];exact h4 c (by omega))
  rw [Nat.zero_add] at h3
  have:row=(List.range n).map fun d=>bt (Ob p n z.Rows told acc x d):=fp 0 h2 (by simp) fun d hd=>by rw [h3 d hd,aW hd]
  rw [e,bS,h1,this]
end
/-- who is disqualified -/
theorem HJ {n t:Nat} {w:ab} (hn:n≤7) (hN:w.S.N=(n:Int)) (hT:w.S.T=(t:Int)) {l36:List (List Nat)} {acc obj:List (List Bool)} (ax:Ax n l36 acc) {r35:(List (List Nat)) × Int × (List (List af))} (h1:r35.1.length=n) (h2:∀ i,i < n→(r35.1.getD i []).length≤1000) (ho:∀ d,d < n→∀ i,i < n→ac obj d i=((((r35.1.getD i []).getD d 0:Nat):Int) != 0)) :
    cW (fun k16 (st:(List Bool))=>iA w l36 r35 k16 st) n 0 (List.replicate n false)=some ((List.range n).map (dq n t acc obj)):=by
  have hmx:max 0 ((n:Nat):Int).toNat=n:=by simp
  refine sZ false _ (by simp) fun d l hd hl _=>?_
  unfold iA
  rw [hN,hmx,Nat.sub_zero]
  have e:=oP (body:=fun k17 (st:Int)=>iB w l36 r35 d k17 st) (fun k=>((cnt (ag acc obj d) k:Nat):Int)) (n:=n) (a:=0) (fun x _ hx=>by
    have hx:x < n:=by omega
    have hc:=BG (f:=ag acc obj d) (a:=x)
    unfold iB
    rw [ix [] (by rw [ax.len];exact hx),bS,ix 0 (by rw [ax.row x hx];exact hd),bS,ax.b hx hd,jB]
    have hag:ag acc obj d x=(ac acc d x || ac obj d x):=rfl
    rw [hag]
    cases hb:ac acc d x
    · rw [cF,ix [] (by omega),bS,hN,mV (by omega) (by have:=h2 x hx;omega),bS,ix 0 (by rw [sB];exact hd),bS,sA hd,← ho d hd x hx]
      cases hb2:ac obj d x
      · rw [cF];rfl
      · rw [cT,bk (by omega) (by omega),bS];rfl
    · rw [cT,bk (by omega) (by omega),bS];rfl)
  have h0:((cnt (ag acc obj d) 0:Nat):Int)=((0:Nat):Int):=rfl
  rw [h0,Nat.zero_add] at e
  have hq:decide (((cnt (ag acc obj d) n:Nat):Int) > ((t:Nat):Int))=dq n t acc obj d:=by
    unfold dq
    by_cases g:t < cnt (ag acc obj d) n
    · rw [decide_eq_true g,decide_eq_true (by omega)]
    · rw [decide_eq_false g,decide_eq_false (by omega)]
  rw [e,bS,ix false (by omega),bS,bS,hT,hq]
/-- the rows that are held -/
theorem C0 {p n t:Nat} {w:ab} {z:am} (zs:Zs p n t z) (hn:n≤7) (ht:t≤2) (hN:w.S.N=(n:Int)) (hT:w.S.T=(t:Int)) {l36:List (List Nat)} {acc:List (List Bool)} (ax:Ax n l36 acc) {told:List (List (List (List Nat)))} (td:Td p n t (fun d=>(z.S.getD d []).length) acc told) {D:Nat→Bool} :
    cW (fun k18 (st:(List (List (List (List Nat)))))=>ep z w l36 told ((List.range n).map D) k18 st) n 0 (List.replicate n [])=some ((List.range n).map fun i=>(List.range n).map fun d=>tW t (z.S.getD d []).length ((z.Rows.getD i []).getD d []) ((told.getD d []).getD i []) (D d) (ac acc d i)):=by
  have hmx:max 0 ((n:Nat):Int).toNat=n:=by simp
  have et:((t:Nat):Int)+1=((t+1:Nat):Int):=by omega
  refine iZ _ fun x l hx hl h0=>?_
  unfold ep
  rw [hN,hmx,Nat.sub_zero,pK (fun d=>tW t (z.S.getD d []).length ((z.Rows.getD x []).getD d []) ((told.getD d []).getD x []) (D d) (ac acc d x)) hx hl (fun d l' hd hl' hw=>by
    rw [h0] at hw
    simp only [List.length_nil] at hw
    have hm:=zs.S.many d hd
    have hm2:=zs.R.many x hx d hd
    rw [Nat.zero_add]
    have key:∀ k,k < (z.S.getD d []).length→((tW t (z.S.getD d []).length ((z.Rows.getD x []).getD d []) ((told.getD d []).getD x []) (D d) (ac acc d x)).getD k [])=if D d then List.replicate (t+1) 0 else if ac acc d x then ((told.getD d []).getD x []).getD k [] else ((z.Rows.getD x []).getD d []).getD k []:=fun k hk=>by
      unfold tW
      split
      · rw [List.getD_eq_getElem?_getD,List.getElem?_replicate,if_pos hk];rfl
      · split <;> rfl
    have hlen:(tW t (z.S.getD d []).length ((z.Rows.getD x []).getD d []) ((told.getD d []).getD x []) (D d) (ac acc d x)).length=(z.S.getD d []).length:=by
      unfold tW
      split
      · simp
      · split
        · rename_i h;exact td.many d hd x hx h
        · exact hm2
    have e:=zN (step:=fun (st:(List (List Nat)) × Int)=>dk z w l36 told ((List.range n).map D) x d st.1 st.2) (n:=(z.S.getD d []).length) (fun k=>if D d then List.replicate (t+1) 0 else if ac acc d x then ((told.getD d []).getD x []).getD k [] else ((z.Rows.getD x []).getD d []).getD k []) (by omega) [] (fun k l2 hk hl2=>by
      have hll:l2.length=k:=by rw [hl2];simp
      have hrow:(bif ac acc d x then told[d]? >>= fun x121=>x121[x]? >>= fun x122=>eD x122 ((k:Nat):Int) >>= fun x123=>some x123 else some (((z.Rows.getD x []).getD d []).getD k []))=some (if ac acc d x then ((told.getD d []).getD x []).getD k [] else ((z.Rows.getD x []).getD d []).getD k []):=by
        cases hb:ac acc d x
        · rw [cF];rfl
        · have:=td.many d hd x hx hb
          rw [cT,ix [] (by rw [td.len];exact hd),bS,ix [] (by rw [td.row d hd];exact hx),bS,aO [] (by omega) (by rw [this];omega),bS,Int.toNat_natCast];rfl
      unfold dk
      simp only
      rw [ix [] (by rw [zs.S.len];exact hd),bS,dT (by omega),cT,ix [] (by rw [zs.R.len];exact hx),bS,ix [] (by rw [zs.R.row x hx];exact hd),bS,aO [] (by omega) (by omega),bS,Int.toNat_natCast,ix [] (by rw [ax.len];exact hx),bS,ix 0 (by rw [ax.row x hx];exact hd),bS,ax.b hx hd,hrow,bS,ix false (by simp;exact hd),bS,aW hd]
      cases hD:D d
      · rw [cF,aY (by simp only [List.length_cons,List.length_nil];omega) (by simp only [List.length_cons,List.length_nil];omega),bS,bk (by omega) (by omega),bS];rfl
      · rw [cT,hT,bk (by omega) (by omega),et,bS,b0 (by omega) (by omega) (by omega) (by omega),bS,Int.toNat_natCast,aY (by simp only [List.length_cons,List.length_nil];omega) (by simp only [List.length_cons,List.length_nil];omega),bS,bk (by omega) (by omega),bS];rfl) (fun l2=>by
      unfold dk
      simp only
      rw [ix [] (by rw [zs.S.len];exact hd),bS,dF (by omega),cF])
    have hE:([]:List (List Nat))++(List.range (z.S.getD d []).length).map (fun k=>if D d then List.replicate (t+1) 0 else if ac acc d x then ((told.getD d []).getD x []).getD k [] else ((z.Rows.getD x []).getD d []).getD k [])=tW t (z.S.getD d []).length ((z.Rows.getD x []).getD d []) ((told.getD d []).getD x []) (D d) (ac acc d x):=by
      rw [List.nil_append]
      exact fp [] (by simp) hlen fun k hk=>by rw [aW hk,key k hk]
    unfold fO
    rw [e,bS,ix [] (by omega),bS,hE,aY (by simp only [List.length_cons,List.length_nil];omega) (by simp only [List.length_cons,List.length_nil];omega),bS,bS]),bS,h0,List.nil_append]
/-- the second half, as the program has it -/
theorem wF {m:ay} [NeZero m.zw.S.P] {n t B:Nat} (s:Sc m.zw n t) (hn:n≤7) (ht:t≤2) {z:am} (zs:Zs m.zw.S.P n t z) (hv:VB n B m.ap) (hB:B≤400) (hr:0≤m.ai∧m.ai≤900)
    {v4:List (List af)} {ans:List (List (List Nat))} {told:List (List (List (List Nat)))} {acc obj:List (List Bool)} {h3 h4 h5 h6:List (List Nat)} {b1 b2:Nat→Nat→Bool} (hl:v4.length=n) (td:Td m.zw.S.P n t (fun d=>(z.S.getD d []).length) acc told)
    (T2:J9 m.zw n t z m.ai m.ap v4 ans told acc obj h3 h4 h5 h6 b1 b2) :
    fS m z=some (⟨(List.range n).map fun i=>(List.range n).map fun d=>tW t (z.S.getD d []).length ((z.Rows.getD i []).getD d []) ((told.getD d []).getD i []) (dq n t acc obj d) (ac acc d i),(List.range n).map (dq n t acc obj)⟩,m.ai+4,v4,m.al):=by
  obtain ⟨zw,zr,zv,zt⟩:=m
  simp only at *
  have hp:=s.sup
  have hlt:=hp.lt
  have h13:=s.n13
  have hmx:max 0 ((n:Nat):Int).toNat=n:=by simp
  have hmx1:max 1 (((n:Nat):Int)+1).toNat=n+1:=by omega
  have hb01:∀ (c:Prop) (b:Bool),(b=true ↔ c)→bt c=if b then 1 else 0:=fun c b h=>by
    cases b
    · rw [yq (fun g=>by have:=h.2 g;cases this)];rfl
    · rw [BF (h.1 rfl)];rfl
  have hbl1:∀ b:Nat→Nat→Bool,Bl zw.S.P n 7 ((List.range n).map fun i=>(List.range n).map fun d=>if b i d then 1 else 0):=fun b=>⟨by simp,fun i hi=>by
    rw [aW hi]
    exact ⟨qB fun k _=>(by split <;> omega),by simp;exact hn⟩⟩
  -- answers
  have hbA:Bl zw.S.P n 490 ((List.range n).map fun d=>lR zw.S.P (z.S.getD d []) (iE z.az n d n)):=⟨by simp,fun d hd=>by
    rw [aW hd]
    have hdl:=pV (F:=z.az) (n:=n) (d:=d) (k:=n)
    have hnn:n*n≤7*7:=Nat.mul_le_mul hn hn
    refine ⟨rr fun q hq=>qB fun k hk=>?_,by rw [xX];exact Nat.le_trans (Nat.mul_le_mul (Nat.le_trans hdl hnn) (zs.S.many d hd)) (by decide)⟩
    obtain ⟨i,j,hi,hj,_,e⟩:=us (getD_in (d:=(⟨0,0⟩:bF)) hq)
    rw [e]
    exact (yp hp (zs.S.mat d hd k hk) (by omega) (by show i+1 < zw.S.P;omega) (by show j+1 < zw.S.P;omega)).2⟩
  obtain ⟨h3',v1,e1,ea1,q1,w1,w2,w3⟩:=sX (m:=⟨zw,zr,zv,zt⟩) s hbA (by omega) hv.1 hv.2 (by omega) (by show 0≤zr∧zr≤1000;omega)
  simp only at e1 ea1 w2
  rw [T2.a3] at ea1
  obtain rfl:=Option.some.inj ea1
  -- accusations
  have hA:(List.range n).map (fun x=>(List.range n).map fun d=>bt (Wr zw.S.P n z x d (got (h3.getD d []) (z.S.getD d []).length (iE z.az n d n).length)))=(List.range n).map fun i=>(List.range n).map fun d=>if b1 i d then 1 else 0:=List.map_congr_left fun i hi=>List.map_congr_left fun d hd=>by
    have hi:i < n:=by simpa using hi
    have hd:d < n:=by simpa using hd
    rw [← T2.eans d hd]
    exact hb01 _ _ (T2.eb1 i hi d hd)
  obtain ⟨h4',v2,e2,ea2,q2,x1,x2,x3⟩:=sX (m:=⟨zw,zr+1,v1,zt⟩) s (hbl1 b1) (by omega) w1 w3 (by omega) (by show 0≤zr+1∧zr+1≤1000;omega)
  simp only at e2 ea2 x2
  rw [T2.a4] at ea2
  obtain rfl:=Option.some.inj ea2
  have ax:Ax n ((List.range n).map fun x=>rz (h4.getD x []) n) acc:=⟨by simp,fun i hi=>by rw [aW hi,sB],fun i hi d hd=>by
    rw [aW hi,sA hd,T2.eacc d hd i hi]
    by_cases g:(h4.getD i []).getD d 0=0
    · rw [qF (by omega)];exact ⟨fun h=>absurd g h,fun h=>by cases h⟩
    · rw [qT (by omega)];exact ⟨fun _=>rfl,fun _=>g⟩⟩
  -- public rows
  have hbT:Bl zw.S.P n 210 ((List.range n).map fun d=>tM zw.S.P n (z.S.getD d []) (ac acc d)):=⟨by simp,fun d hd=>by
    rw [aW hd]
    exact Aa hp zs.S ht hn (by omega) hd⟩
  obtain ⟨h5',v3,e3,ea3,q3,y1,y2,y3⟩:=sX (m:=⟨zw,zr+1+1,v2,zt⟩) s hbT (by omega) x1 x3 (by omega) (by show 0≤zr+1+1∧zr+1+1≤1000;omega)
  simp only at e3 ea3 y2
  rw [T2.a5] at ea3
  obtain rfl:=Option.some.inj ea3
  have hTd:(List.range n).map (fun d=>(List.range n).map (vn (h5.getD d []) (ac acc d) t (z.S.getD d []).length))=told:=fp [] (by simp) td.len fun d hd=>by
    rw [aW hd]
    exact fp [] (by simp) (td.row d hd) fun a ha=>by rw [aW ha,T2.etold d hd a ha]
  -- objections
  have hO:(List.range n).map (fun x=>(List.range n).map fun d=>bt (Ob zw.S.P n z.Rows told acc x d))=(List.range n).map fun i=>(List.range n).map fun d=>if b2 i d then 1 else 0:=List.map_congr_left fun i hi=>List.map_congr_left fun d hd=>hb01 _ _ (T2.eb2 i (by simpa using hi) d (by simpa using hd))
  obtain ⟨h6',v4',e4,ea4,q4,z1,z2,z3⟩:=sX (m:=⟨zw,zr+1+1+1,v3,zt⟩) s (hbl1 b2) (by omega) y1 y3 (by omega) (by show 0≤zr+1+1+1∧zr+1+1+1≤1000;omega)
  simp only at e4 ea4 z2
  rw [T2.a6] at ea4
  obtain rfl:=Option.some.inj ea4
  have hv4:v4'=v4:=fp [] z1 hl fun j hj=>by rw [T2.v j hj,z2 j hj,y2 j hj,x2 j hj,w2 j hj]
  subst hv4
  unfold fS bI
  rw [bS,s.N,b0 (by omega) (by omega) (by omega) (by omega),bS,Int.toNat_natCast,Nat.max_eq_right (Nat.zero_le n),bU (by omega),bS,Nat.sub_zero,CW hp zs hn ht s.N rfl,bS,e1,bS,hmx1,bU (by omega),bS,Nat.add_sub_cancel]
  rw [Fq (r7:=(h3,zr+1,v1)) hp zs hn ht s.N rfl q1.len (fun d hd=>Nat.le_trans (q1.w d hd).2 (by omega)),bS]
  simp only
  rw [hA,e2,bS]
  simp only
  rw [sZ ([]:List Nat) (fun x=>rz (h4.getD x []) n) q2.len (fun x l hx hl h0=>by
    unfold kR
    rw [ix [] (by omega),bS,h0,s.N,mV (by omega) (by have:=(q2.w x hx).2;omega),bS,bS]),bS,Bi hp zs hn ht s.N rfl ax,bS,e3,bS,b0 (by omega) (by omega) (by omega) (by omega),bS,Int.toNat_natCast]
  rw [Bj (r24:=(h5,zr+1+1+1,v3)) zs hn ht s.N s.T ax q3.len (fun d hd=>Nat.le_trans (q3.w d hd).2 (by omega)),bS]
  simp only
  rw [hTd,FB hp zs hn ht s.N rfl ax td,bS,hO,e4,bS,b0 (by omega) (by omega) (by omega) (by omega),bS,Int.toNat_natCast]
  rw [HJ (t:=t) (acc:=acc) (obj:=obj) (r35:=(h6,zr+1+1+1+1,v4')) hn s.N s.T ax q4.len (fun d hd=>Nat.le_trans (q4.w d hd).2 (by omega)) (fun d hd i hi=>T2.eobj d hd i hi),bS,C0 zs hn ht s.N s.T ax td,bS]
  have:zr+1+1+1+1=zr+4:=by omega
  rw [this]
/-- sharing, as the program has it -/
theorem Bg {m:ay} [NeZero m.zw.S.P] {n t B:Nat} (s:Sc m.zw n t) (ht:t=1 ∨ t=2) (hn:n≤7) {q:List (List (List Nat))} {tp:Nat→List Nat} {ps:Nat→Nat} (Q:Qs m.zw.S.P n t q (rem n tp ps)) (hts:Gy n m.al tp ps) (hv:VB n B m.ap) (hB:B≤350) (hr:0≤m.ai∧m.ai≤800) {res:bi} {views:List (List af)} (T0:Trace m.zw (rem n tp ps) n t m.ai m.ap q res views) :
    ∃ T,ju m q=some (res,m.ai+7,views,T)∧Gy n T tp (fun i=>ps i+(q.getD i []).length*(t*(t+1) / 2)):=by
  obtain ⟨S,R,F,v1,A0,A1,o0,h2,fl,ans,told,acc,obj,h3,h4,h5,h6,b1,b2,hSm,hS,hR,_,_,hT1,hT2,hF,td,hl1,hl2,hres⟩:=T0
  obtain ⟨T,e1,hT⟩:=A5 s ht hn Q hts hv (by omega) (by omega) hS hSm hR hl1 hT1
  have hm:∀ d,d < n→(q.getD d []).length=(S.getD d []).length:=fun d hd=>by rw [hSm d hd,oV]
  have hvb:VB n (B+3*n) v1:=⟨hl1,fun j hj=>by
    rw [hT1.v j hj,List.length_append,List.length_append,List.length_append]
    have:=hv.2 j hj
    have:=sN (round:=m.ai) (all:=A0) (j:=j) (k:=n)
    have:=sN (round:=m.ai+1) (all:=A1) (j:=j) (k:=n)
    have:=uu (round:=m.ai+1+1) (all:=h2) (j:=j) (k:=n)
    omega⟩
  have e2:=wF (m:=⟨m.zw,m.ai+1+1+1,v1,T⟩) (z:=⟨S,R,F⟩) s hn (by omega) ⟨hS,xa hm hR,hF⟩ hvb (by omega) (by show 0≤m.ai+1+1+1∧m.ai+1+1+1≤900;omega) hl2 td hT2
  refine ⟨T,?_,hT⟩
  unfold ju
  rw [e1,bS]
  simp only
  rw [e2,bS]
  simp only
  have:m.ai+1+1+1+4=m.ai+7:=by omega
  rw [this,hres]
end Pu
