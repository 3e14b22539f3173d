/- The words of the printed plain functions: what Go's operations do, over lists and numbers. No Go in it. -/
set_option linter.unusedVariables false
namespace Gw
def og(a b:Nat):Nat:=(a+b) % 18446744073709551616
def xD(a b:Nat):Nat:=(a*b) % 18446744073709551616
def Iu(a b:Nat):Nat:=(a+b) / 18446744073709551616
def yY(a b:Nat):Nat:=(((a:Int)-(b:Int)) % 18446744073709551616).toNat
def xp(a b:Nat):Nat:=(a % 18446744073709551616) &&& (b % 18446744073709551616)
def Od(a b:Nat):Nat:=(a % 18446744073709551616) ||| (b % 18446744073709551616)
def Ep(a b:Nat):Option Nat:=if b=0 then none else some (a / b % 18446744073709551616)
def xF(a b:Nat):Option Nat:=if b=0 then none else some (a % b)
def Ie(z:Int):Option Int:=if -9223372036854775808≤z∧z<9223372036854775808 then some z else none
def ee(a b:Int):Option Int:=Ie (a+b)
def jB(a b:Int):Option Int:=Ie (a-b)
def jX(a b:Int):Option Int:=Ie (a*b)
def xz(a b:Int):Option Int:=if b=0 then none else Ie (a.tdiv b)
def Ht(a b:Int):Option Int:=if b=0 then none else some (a.tmod b)
def vo(a:Nat)(b:Int):Option Nat:=if b<0 then none else some (a / 2 ^ (min b.toNat 64))
def C1(a:Nat)(b:Int):Option Nat:=if b<0 then none else some (a*2 ^ (min b.toNat 64) % 18446744073709551616)
def sE(z:Int):Nat:=(z % 18446744073709551616).toNat
def KQ(z:Int):Int:=(z+9223372036854775808) % 18446744073709551616-9223372036854775808
def gY{α:Type}(xs:List α)(i:Int):Option α:=if 0≤i then xs[i.toNat]? else none
/-- append; b bytes an element -/
def cU{α:Type}(b:Nat)(xs ys:List α):Option (List α):=if(xs.length+ys.length)*b≤140737488355328∧xs.length+ys.length≤140737488355328 then some (xs++ys) else none
/-- make -/
def o9{α:Type}(b:Nat)(m n:Int)(x:α):Option (List α):=if 0≤m∧m≤n∧(b:Int)*n≤281474976710656∧n≤140737488355328 then some (List.replicate m.toNat x) else none
/-- a cut -/
def oU{α:Type}(xs:List α)(lo hi:Int):Option (List α):=if 0≤lo∧lo≤hi∧hi≤xs.length then some ((xs.drop lo.toNat).take (hi.toNat-lo.toNat)) else none
/-- copy onto xs -/
def jd{α:Type}(xs ys:List α):List α:=ys.take (min ys.length xs.length)++xs.drop (min ys.length xs.length)
/-- one round: go on with a state, or end -/
inductive Out (S R:Type) where
 | go (s:S)
 | fin (r:R)
/-- rounds -/
def vM{S R:Type}(step:S→Option (Out S R)):Nat→S→Option R
 | 0,_=>none
 | k+1,s=>match step s with
  | none=>none
  | some (.go s')=>vM step k s'
  | some (.fin r)=>some r
/-- more rounds than any machine makes -/
def big:Nat:=18446744073709551616
/-- a range: rem rounds more, from k on -/
def qg{S R:Type}(body:Nat→S→Option (Out S R)):Nat→Nat→S→Option (Out S R)
 | 0,_,s=>some (.go s)
 | rem+1,k,s=>match body k s with
  | none=>none
  | some (.go s')=>qg body rem (k+1) s'
  | some (.fin r)=>some (.fin r)
/-- a range that never ends early -/
def cZ{S:Type}(body:Nat→S→Option S):Nat→Nat→S→Option S
 | 0,_,s=>some s
 | rem+1,k,s=>match body k s with
  | none=>none
  | some s'=>cZ body rem (k+1) s'
/-- an early end, or what follows -/
def ma{S R α:Type}(o:Out S R)(f:R→Option α)(g:S→Option α):Option α:=match o with | .fin r=>f r | .go s=>g s
def HI{S R α:Type}(o:R ⊕ S)(f:R→Option α)(g:S→Option α):Option α:=match o with | .inl r=>f r | .inr s=>g s
/-- what a map has at a key -/
def j7{α:Type}:List (Int×α)→Int→Option α
 | [],_=>none
 | p::m,k=>bif p.1==k then some p.2 else j7 m k
/-- a map with an entry put in -/
def pY{α:Type}:List (Int×α)→Int→α→List (Int×α)
 | [],k,a=>[(k,a)]
 | p::m,k,a=>bif p.1==k then(k,a)::m else p::pY m k a
/-- either -/
def C3{S R α:Type}(o:R ⊕ S)(f:R→Option α)(g:S→Option α):Option α:=match o with | .inl r=>f r | .inr s=>g s
/-- a range's end that a counter can reach -/
def nN(n:Nat):Option Unit:=if n<9223372036854775807 then some () else none
/-- a range that counts down from n to 1 -/
def NV{S:Type}(body:Int→S→Option S)(n:Int)(s:S):Option S:=if n<9223372036854775808 then cZ (λj st=>body (n-(j:Int)) st) n.toNat 0 s else none
end Gw
