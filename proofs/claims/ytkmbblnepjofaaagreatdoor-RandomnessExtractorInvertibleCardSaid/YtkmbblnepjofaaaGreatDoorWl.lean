/- Rules for the loops of the printed plain functions. Plain Lean, no program. -/
import Derived.Test.YtkmbblnepjofaaaGreatDoorWd
set_option linter.unusedVariables false
namespace Gl
open Gw
def Ai {S R:Type} (I:S→Prop) (Q:R→Prop):Out S R→Prop
  | .go s=>I s
  | .fin r=>Q r
theorem jz {S:Type} {body:Nat→S→Option S} (I:Nat→S→Prop):∀ {rem k:Nat} {s:S},I k s→(∀ j s,k≤j→j < k+rem→I j s→∃ s',body j s=some s'∧I (j+1) s')→∃ s',ea body rem k s=some s'∧I (k+rem) s'
  | 0,k,s,h,_=>⟨s,rfl,h⟩
  | rem+1,k,s,h,hb=>by
    obtain ⟨s1,e1,h1⟩:=hb k s (Nat.le_refl k) (by omega) h
    obtain ⟨s2,e2,h2⟩:=jz I (rem:=rem) (k:=k+1) h1 (fun j s h3 h4 h5=>hb j s (by omega) (by omega) h5)
    exact ⟨s2,by simp only [ea,e1,e2],by rw [show k+(rem+1)=k+1+rem by omega];exact h2⟩
theorem km {S R:Type} {body:Nat→S→Option (Out S R)} (I:Nat→S→Prop) (Q:R→Prop):∀ {rem k:Nat} {s:S},I k s→(∀ j s,k≤j→j < k+rem→I j s→∃ o,body j s=some o∧Ai (I (j+1)) Q o)→∃ o,nM body rem k s=some o∧Ai (I (k+rem)) Q o
  | 0,k,s,h,_=>⟨.go s,rfl,h⟩
  | rem+1,k,s,h,hb=>by
    obtain ⟨o1,e1,h1⟩:=hb k s (Nat.le_refl k) (by omega) h
    cases o1 with
    | fin r=>exact ⟨.fin r,by simp only [nM,e1],h1⟩
    | go s1 =>
      obtain ⟨s2,e2,h2⟩:=km I Q (rem:=rem) (k:=k+1) (show I (k+1) s1 from h1) (fun j s h3 h4 h5=>hb j s (by omega) (by omega) h5)
      exact ⟨s2,by simp only [nM,e1,e2],by rw [show k+(rem+1)=k+1+rem by omega];exact h2⟩
theorem xh {S R:Type} {step:S→Option (Out S R)} (I:S→Prop) (Q:R→Prop) (m:S→Nat) (hb:∀ s,I s→∃ o,step s=some o∧Ai (fun s'=>I s'∧m s' < m s) Q o):∀ {k:Nat} {s:S},I s→m s < k→∃ r,qE step k s=some r∧Q r
  | 0,s,_,h=>by omega
  | k+1,s,h,hm=>by
    obtain ⟨o,e,g⟩:=hb s h
    cases o with
    | fin r=>exact ⟨r,by simp only [qE,e],g⟩
    | go s' =>
      obtain ⟨r,e2,g2⟩:=xh I Q m hb (k:=k) g.1 (by have:=g.2;omega)
      exact ⟨r,by simp only [qE,e,e2],g2⟩
theorem sa {S R:Type} {step:S→Option (Out S R)} (I:S→Prop) (Q:R→Prop) (m:S→Nat) (hb:∀ s,I s→∃ o,step s=some o∧Ai (fun s'=>I s'∧m s' < m s) Q o) {s:S} (h:I s) (hm:m s < 18446744073709551616):∃ r,qE step big s=some r∧Q r:=xh I Q m hb h hm
theorem ow {z:Int} (h1 : -9223372036854775808≤z) (h2:z < 9223372036854775808):Ar z=some z:=if_pos ⟨h1,h2⟩
theorem lk {a b:Int} (h1 : -9223372036854775808≤a+b) (h2:a+b < 9223372036854775808):dY a b=some (a+b):=ow h1 h2
theorem tL {a b:Int} (h1 : -9223372036854775808≤a - b) (h2:a - b < 9223372036854775808):f5 a b=some (a - b):=ow h1 h2
theorem xT {a b:Int} (h1 : -9223372036854775808≤a*b) (h2:a*b < 9223372036854775808):lV a b=some (a*b):=ow h1 h2
theorem yW {α:Type} {xs:List α} {i:Int} (h1:0≤i) (h2:i < xs.length):eV xs i=some (xs[i.toNat]'(by omega)):=by
  unfold eV;rw [if_pos h1,List.getElem?_eq_getElem]
theorem qj {α:Type} {xs:List α} {i:Int} (d:α) (h1:0≤i) (h2:i < xs.length):eV xs i=some (xs.getD i.toNat d):=by
  rw [yW h1 h2,List.getD_eq_getElem?_getD,List.getElem?_eq_getElem (by omega)];rfl
theorem ei {α:Type} {b:Nat} {xs ys:List α} (h:(xs.length+ys.length)*b≤140737488355328) (h2:xs.length+ys.length≤140737488355328):cY b xs ys=some (xs++ys):=if_pos ⟨h,h2⟩
theorem ng {α:Type} {b:Nat} {m n:Int} {x:α} (h1:0≤m) (h2:m≤n) (h3:(b:Int)*n≤281474976710656) (h4:n≤140737488355328):og b m n x=some (List.replicate m.toNat x):=if_pos ⟨h1,h2,h3,h4⟩
theorem m7 {α:Type} {xs:List α} {lo hi:Int} (h1:0≤lo) (h2:lo≤hi) (h3:hi≤xs.length):nB xs lo hi=some ((xs.drop lo.toNat).take (hi.toNat - lo.toNat)):=if_pos ⟨h1,h2,h3⟩
theorem lH {n:Nat} (h:n < 9223372036854775807):mQ n=some ():=if_pos h
/- rules that are not taken by unfolding (the kernel must not evaluate what stands behind) -/
theorem qi {p:Prop} (h:p):p:=Or.elim (Or.inl h:p ∨ False) id False.elim
theorem bS {α β:Type} {a:α} {f:α→Option β}:(some a >>= f)=f a:=qi rfl
theorem cT {α:Type} {a b:α}:cond true a b=a:=qi rfl
theorem cF {α:Type} {a b:α}:cond false a b=b:=qi rfl
theorem oF {S R α:Type} {r:R} {f:R→Option α} {g:S→Option α}:iA (.fin r:Out S R) f g=f r:=qi rfl
theorem oG {S R α:Type} {s:S} {f:R→Option α} {g:S→Option α}:iA (.go s:Out S R) f g=g s:=qi rfl
theorem nT:(!true)=false:=qi rfl
theorem nF:(!false)=true:=qi rfl
theorem dT {p:Prop} [Decidable p] (h:p):decide p=true:=decide_eq_true h
theorem dF {p:Prop} [Decidable p] (h:¬ p):decide p=false:=decide_eq_false h
theorem eT {a b:Int} (h:a=b):(a == b)=true:=by rw [h];exact beq_self_eq_true b
theorem eF {a b:Int} (h:a≠b):(a == b)=false:=beq_eq_false_iff_ne.2 h
theorem qT {a b:Int} (h:a≠b):(a != b)=true:=by rw [bne,eF h];exact qi rfl
theorem qF {a b:Int} (h:a=b):(a != b)=false:=by rw [bne,eT h];exact qi rfl
theorem ix {α:Type} {xs:List α} {i:Nat} (d:α) (h:i < xs.length):xs[i]?=some (xs.getD i d):=by rw [List.getD_eq_getElem?_getD,List.getElem?_eq_getElem h];rfl
end Gl
