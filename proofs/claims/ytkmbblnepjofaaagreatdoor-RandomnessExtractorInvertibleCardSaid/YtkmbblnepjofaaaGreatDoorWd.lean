/- The words of the printed plain functions: what Go's operations do, over lists and numbers. No Go in it. -/
set_option linter.unusedVariables false
namespace Gw
def nv (a b:Nat):Nat:=(a+b) % 18446744073709551616
def rM (a b:Nat):Nat:=(a*b) % 18446744073709551616
def Ap (a b:Nat):Nat:=(a+b) / 18446744073709551616
def te (a b:Nat):Nat:=(((a:Int) - (b:Int)) % 18446744073709551616).toNat
def rz (a b:Nat):Nat:=(a % 18446744073709551616) &&& (b % 18446744073709551616)
def EY (a b:Nat):Nat:=(a % 18446744073709551616) ||| (b % 18446744073709551616)
def Ar (z:Int):Option Int:=if -9223372036854775808≤z∧z < 9223372036854775808 then some z else none
def dY (a b:Int):Option Int:=Ar (a+b)
def f5 (a b:Int):Option Int:=Ar (a - b)
def lV (a b:Int):Option Int:=Ar (a*b)
def vZ (a b:Int):Option Int:=if b=0 then none else Ar (a.tdiv b)
def pY (a:Nat) (b:Int):Option Nat:=if b < 0 then none else some (a / 2 ^ (min b.toNat 64))
def wt (a:Nat) (b:Int):Option Nat:=if b < 0 then none else some (a*2 ^ (min b.toNat 64) % 18446744073709551616)
def tf (z:Int):Nat:=(z % 18446744073709551616).toNat
def eV {α:Type} (xs:List α) (i:Int):Option α:=if 0≤i then xs[i.toNat]? else none
/-- append; b bytes an element -/
def cY {α:Type} (b:Nat) (xs ys:List α):Option (List α):=if (xs.length+ys.length)*b≤140737488355328∧xs.length+ys.length≤140737488355328 then some (xs++ys) else none
/-- make -/
def og {α:Type} (b:Nat) (m n:Int) (x:α):Option (List α):=if 0≤m∧m≤n∧(b:Int)*n≤281474976710656∧n≤140737488355328 then some (List.replicate m.toNat x) else none
/-- a cut -/
def nB {α:Type} (xs:List α) (lo hi:Int):Option (List α):=if 0≤lo∧lo≤hi∧hi≤xs.length then some ((xs.drop lo.toNat).take (hi.toNat - lo.toNat)) else none
/-- copy onto xs -/
def uZ {α:Type} (xs ys:List α):List α:=ys.take (min ys.length xs.length)++xs.drop (min ys.length xs.length)
/-- one round: go on with a state, or end -/
inductive Out (S R:Type) where
  | go (s:S)
  | fin (r:R)
/-- rounds -/
def qE {S R:Type} (step:S→Option (Out S R)):Nat→S→Option R
  | 0,_=>none
  | k+1,s=>match step s with
    | none=>none
    | some (.go s')=>qE step k s'
    | some (.fin r)=>some r
/-- more rounds than any machine makes -/
def big:Nat:=18446744073709551616
/-- a range: rem rounds more, from k on -/
def nM {S R:Type} (body:Nat→S→Option (Out S R)):Nat→Nat→S→Option (Out S R)
  | 0,_,s=>some (.go s)
  | rem+1,k,s=>match body k s with
    | none=>none
    | some (.go s')=>nM body rem (k+1) s'
    | some (.fin r)=>some (.fin r)
/-- a range that never ends early -/
def ea {S:Type} (body:Nat→S→Option S):Nat→Nat→S→Option S
  | 0,_,s=>some s
  | rem+1,k,s=>match body k s with
    | none=>none
    | some s'=>ea body rem (k+1) s'
/-- an early end, or what follows -/
def iA {S R α:Type} (o:Out S R) (f:R→Option α) (g:S→Option α):Option α:=match o with | .fin r=>f r | .go s=>g s
def Fj {S R α:Type} (o:R ⊕ S) (f:R→Option α) (g:S→Option α):Option α:=match o with | .inl r=>f r | .inr s=>g s
/-- either -/
def D3 {S R α:Type} (o:R ⊕ S) (f:R→Option α) (g:S→Option α):Option α:=match o with | .inl r=>f r | .inr s=>g s
/-- a range's end that a counter can reach -/
def mQ (n:Nat):Option Unit:=if n < 9223372036854775807 then some () else none
end Gw
