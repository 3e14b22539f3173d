/- Rules for the loops of the printed plain functions. Plain Lean, no program. -/
import Derived.Test.YtpjenmchinpgaaaGreatDoorWd
set_option linter.unusedVariables false
namespace Gl
open Gw
def Ij{S R:Type}(I:S→Prop)(Q:R→Prop):Out S R→Prop
 | .go s=>I s
 | .fin r=>Q r
theorem bm{S:Type}{body:Nat→S→Option S}(I:Nat→S→Prop):∀{rem k:Nat} {s:S},I k s→(∀j s,k≤j→j<k+rem→I j s→∃s',body j s=some s'∧I (j+1) s')→∃s',cZ body rem k s=some s'∧I (k+rem) s'
 | 0,k,s,h,_=>⟨s,rfl,h⟩
 | rem+1,k,s,h,hb=>by
  obtain⟨s1,e1,h1⟩:=hb k s (Nat.le_refl k) (by omega) h
  obtain⟨s2,e2,h2⟩:=bm I (rem:=rem) (k:=k+1) h1 (λj s h3 h4 h5=>hb j s (by omega) (by omega) h5)
  exact⟨s2,by simp only[cZ,e1,e2],by rw[show k+(rem+1)=k+1+rem by omega];exact h2⟩
theorem im{S R:Type}{body:Nat→S→Option (Out S R)}(I:Nat→S→Prop)(Q:R→Prop):∀{rem k:Nat} {s:S},I k s→(∀j s,k≤j→j<k+rem→I j s→∃o,body j s=some o∧Ij (I (j+1)) Q o)→∃o,qg body rem k s=some o∧Ij (I (k+rem)) Q o
 | 0,k,s,h,_=>⟨.go s,rfl,h⟩
 | rem+1,k,s,h,hb=>by
  obtain⟨o1,e1,h1⟩:=hb k s (Nat.le_refl k) (by omega) h
  cases o1 with
  | fin r=>exact⟨.fin r,by simp only[qg,e1],h1⟩
  | go s1 =>
   obtain⟨s2,e2,h2⟩:=im I Q (rem:=rem) (k:=k+1) (show I (k+1) s1 from h1) (λj s h3 h4 h5=>hb j s (by omega) (by omega) h5)
   exact⟨s2,by simp only[qg,e1,e2],by rw[show k+(rem+1)=k+1+rem by omega];exact h2⟩
theorem DJ{S R:Type}{step:S→Option (Out S R)}(I:S→Prop)(Q:R→Prop)(m:S→Nat)(hb:∀s,I s→∃o,step s=some o∧Ij (λs'=>I s'∧m s'<m s) Q o):∀{k:Nat} {s:S},I s→m s<k→∃r,vM step k s=some r∧Q r
 | 0,s,_,h=>by omega
 | k+1,s,h,hm=>by
  obtain⟨o,e,g⟩:=hb s h
  cases o with
  | fin r=>exact⟨r,by simp only[vM,e],g⟩
  | go s' =>
   obtain⟨r,e2,g2⟩:=DJ I Q m hb (k:=k) g.1 (by have:=g.2;omega)
   exact⟨r,by simp only[vM,e,e2],g2⟩
theorem kK{S R:Type}{step:S→Option (Out S R)}(I:S→Prop)(Q:R→Prop)(m:S→Nat)(hb:∀s,I s→∃o,step s=some o∧Ij (λs'=>I s'∧m s'<m s) Q o){s:S}(h:I s)(hm:m s<18446744073709551616):∃r,vM step big s=some r∧Q r:=DJ I Q m hb h hm
theorem pR{z:Int}(h1 : -9223372036854775808≤z)(h2:z<9223372036854775808):Ie z=some z:=if_pos ⟨h1,h2⟩
theorem bi{a b:Int}(h1 : -9223372036854775808≤a+b)(h2:a+b<9223372036854775808):ee a b=some (a+b):=pR h1 h2
theorem cb{a b:Int}(h1 : -9223372036854775808≤a-b)(h2:a-b<9223372036854775808):jB a b=some (a-b):=pR h1 h2
theorem iy{a b:Int}(h1 : -9223372036854775808≤a*b)(h2:a*b<9223372036854775808):jX a b=some (a*b):=pR h1 h2
theorem Gz{α:Type}{xs:List α}{i:Int}(h1:0≤i)(h2:i<xs.length):gY xs i=some (xs[i.toNat]'(by omega)):=by
 unfold gY;rw[if_pos h1,List.getElem?_eq_getElem]
theorem aS{α:Type}{xs:List α}{i:Int}(d:α)(h1:0≤i)(h2:i<xs.length):gY xs i=some (xs.getD i.toNat d):=by
 rw[Gz h1 h2,List.getD_eq_getElem?_getD,List.getElem?_eq_getElem (by omega)];rfl
theorem aM{α:Type}{b:Nat}{xs ys:List α}(h:(xs.length+ys.length)*b≤140737488355328)(h2:xs.length+ys.length≤140737488355328):cU b xs ys=some (xs++ys):=if_pos ⟨h,h2⟩
theorem ci{α:Type}{b:Nat}{m n:Int}{x:α}(h1:0≤m)(h2:m≤n)(h3:(b:Int)*n≤281474976710656)(h4:n≤140737488355328):o9 b m n x=some (List.replicate m.toNat x):=if_pos ⟨h1,h2,h3,h4⟩
theorem eG{α:Type}{xs:List α}{lo hi:Int}(h1:0≤lo)(h2:lo≤hi)(h3:hi≤xs.length):oU xs lo hi=some ((xs.drop lo.toNat).take (hi.toNat-lo.toNat)):=if_pos ⟨h1,h2,h3⟩
theorem bJ{n:Nat}(h:n<9223372036854775807):nN n=some ():=if_pos h
/- rules that are not taken by unfolding (the kernel must not evaluate what stands behind) -/
theorem ss{p:Prop}(h:p):p:=Or.elim (Or.inl h:p∨False) id False.elim
theorem bS{α β:Type}{a:α}{f:α→Option β}:(some a >>= f)=f a:=ss rfl
theorem cT{α:Type}{a b:α}:cond true a b=a:=ss rfl
theorem cF{α:Type}{a b:α}:cond false a b=b:=ss rfl
theorem oF{S R α:Type}{r:R}{f:R→Option α}{g:S→Option α}:ma (.fin r:Out S R) f g=f r:=ss rfl
theorem oG{S R α:Type}{s:S}{f:R→Option α}{g:S→Option α}:ma (.go s:Out S R) f g=g s:=ss rfl
theorem sR{S R α:Type}{s:S}{f:R→Option α}{g:S→Option α}:C3 (.inr s:R ⊕ S) f g=g s:=ss rfl
theorem QW{S R α:Type}{r:R}{f:R→Option α}{g:S→Option α}:HI (.inl r:R ⊕ S) f g=f r:=ss rfl
theorem Rc{S R α:Type}{s:S}{f:R→Option α}{g:S→Option α}:HI (.inr s:R ⊕ S) f g=g s:=ss rfl
theorem nT:(!true)=false:=ss rfl
theorem nF:(!false)=true:=ss rfl
theorem dT{p:Prop}[Decidable p](h:p):decide p=true:=decide_eq_true h
theorem dF{p:Prop}[Decidable p](h:¬p):decide p=false:=decide_eq_false h
theorem eT{a b:Int}(h:a=b):(a==b)=true:=by rw[h];exact beq_self_eq_true b
theorem eF{a b:Int}(h:a≠b):(a==b)=false:=beq_eq_false_iff_ne.2 h
theorem qT{a b:Int}(h:a≠b):(a != b)=true:=by rw[bne,eF h];exact ss rfl
theorem qF{a b:Int}(h:a=b):(a != b)=false:=by rw[bne,eT h];exact ss rfl
theorem ix{α:Type}{xs:List α}{i:Nat}(d:α)(h:i<xs.length):xs[i]?=some (xs.getD i d):=by rw[List.getD_eq_getElem?_getD,List.getElem?_eq_getElem h];rfl
end Gl
