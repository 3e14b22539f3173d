/- Plain facts on the primes 2^q - 1 and on words of 64 bits. No Go in it. -/
set_option linter.unusedVariables false
namespace Sp
/-- The supported primes. -/
def iI (p:Nat):Prop:=p=31 ∨ p=127 ∨ p=8191 ∨ p=131071 ∨ p=524287 ∨ p=2147483647 ∨ p=2305843009213693951
def oW (p:Nat):Nat:=if p=31 then 5 else if p=127 then 7 else if p=8191 then 13 else if p=131071 then 17 else if p=524287 then 19 else if p=2147483647 then 31 else 61
theorem iI.q {p:Nat} (h:iI p):p=2 ^ oW p - 1∧5≤oW p∧oW p≤61:=by
  rcases h with rfl | rfl | rfl | rfl | rfl | rfl | rfl <;> decide
theorem iI.lt {p:Nat} (h:iI p):31≤p∧p≤2305843009213693951:=by
  rcases h with rfl | rfl | rfl | rfl | rfl | rfl | rfl <;> decide

theorem Ig {a b i:Nat} (h:b < 2 ^ i):2 ^ i*a ||| b=2 ^ i*a+b:=(Nat.two_pow_add_eq_or_of_lt h a).symm

theorem LC {q:Nat} (hq:q≤64):18446744073709551616=2 ^ (64 - q)*2 ^ q:=by
  rw [← Nat.pow_add,show 64 - q+q=64 by omega]
/-- hi << (64 - q) -/
theorem Iv {hi q:Nat} (hq:q≤64):hi*2 ^ (64 - q) % 18446744073709551616=2 ^ (64 - q)*(hi % 2 ^ q):=by
  have e:18446744073709551616=2 ^ (64 - q)*2 ^ q:=by rw [← Nat.pow_add,show 64 - q+q=64 by omega]
  rw [e,Nat.mul_comm hi,Nat.mul_mod_mul_left]
theorem tY {lo q:Nat} (hlo:lo < 18446744073709551616) (hq:q≤64):lo / 2 ^ q < 2 ^ (64 - q):=by
  rw [Nat.div_lt_iff_lt_mul (Nat.two_pow_pos q),← Nat.pow_add,show 64 - q+q=64 by omega];exact hlo
/-- the low word of n >> q -/
theorem Jz {hi lo q:Nat} (hlo:lo < 18446744073709551616) (hq:q≤64):lo / 2 ^ q ||| hi*2 ^ (64 - q) % 18446744073709551616=lo / 2 ^ q+2 ^ (64 - q)*(hi % 2 ^ q):=by
  rw [Iv hq,Nat.or_comm,Ig (tY hlo hq),Nat.add_comm]

/-- One round: the bits above q are added to those below. -/
theorem Bd {W A B hi lo:Nat} (hB:0 < B) (w:W=A*B):hi / B*W+(lo / B+A*(hi % B))+lo % B=(hi*W+lo) / B+(hi*W+lo) % B:=by
  have hs:hi*W=B*(A*hi):=by rw [w,Nat.mul_comm,Nat.mul_comm A B,Nat.mul_assoc]
  have e1:(B*(A*hi)+lo) / B=A*hi+lo / B:=Nat.mul_add_div hB ..
  have e2:(B*(A*hi)+lo) % B=lo % B:=Nat.mul_add_mod ..
  rw [hs,e1,e2]
  have h3:A*hi=hi / B*W+A*(hi % B):=by
    have t:hi=B*(hi / B)+hi % B:=(Nat.div_add_mod ..).symm
    have h64:A*(B*(hi / B))=hi / B*W:=by
      rw [← Nat.mul_assoc,← w,Nat.mul_comm]
    rw [← h64,← Nat.mul_add,← t]
  generalize hi / B*W=X at *
  generalize A*(hi % B)=Y at *
  rw [h3]
  omega
theorem CF {hi lo q:Nat} (hq:q≤64):hi / 2 ^ q*18446744073709551616+(lo / 2 ^ q+2 ^ (64 - q)*(hi % 2 ^ q))+lo % 2 ^ q=(hi*18446744073709551616+lo) / 2 ^ q+(hi*18446744073709551616+lo) % 2 ^ q :=
  Bd (Nat.two_pow_pos q) (LC hq)
theorem CE {n q:Nat} (hq:1≤q):(n / 2 ^ q+n % 2 ^ q) % (2 ^ q - 1)=n % (2 ^ q - 1):=by
  have h2:2≤2 ^ q:=by
    have:=Nat.pow_le_pow_right (show 0 < 2 by decide) hq
    simpa using this
  have e:n=(2 ^ q - 1)*(n / 2 ^ q)+(n / 2 ^ q+n % 2 ^ q):=by
    have h:=(Nat.div_add_mod n (2 ^ q)).symm
    have:(2 ^ q - 1)*(n / 2 ^ q)+n / 2 ^ q=2 ^ q*(n / 2 ^ q):=by
      rw [Nat.sub_mul,Nat.one_mul]
      have:n / 2 ^ q≤2 ^ q*(n / 2 ^ q):=Nat.le_mul_of_pos_left _ (by omega)
      omega
    omega
  conv=>rhs;rw [e]
  rw [Nat.mul_add_mod]
/-- products of words -/
theorem Aj {a b:Nat} (ha:a < 4294967296) (hb:b < 4294967296):a*b≤18446744065119617025:=by
  have:=Nat.mul_le_mul (show a≤4294967295 by omega) (show b≤4294967295 by omega)
  omega
theorem Jt (x y:Nat) :
    let x0:=x % 4294967296;let x1:=x / 4294967296;let y0:=y % 4294967296;let y1:=y / 4294967296
    let t:=x1*y0+x0*y0 / 4294967296
    let w1:=t % 4294967296+x0*y1
    x1*y1+t / 4294967296+w1 / 4294967296=x*y / 18446744073709551616:=by
  intro x0 x1 y0 y1 t w1
  have ex:x=4294967296*x1+x0:=(Nat.div_add_mod ..).symm
  have ey:y=4294967296*y1+y0:=(Nat.div_add_mod ..).symm
  have e:x*y=18446744073709551616*(x1*y1)+4294967296*(x1*y0)+4294967296*(x0*y1)+x0*y0:=by
    rw [ex,ey,Nat.add_mul,Nat.mul_add,Nat.mul_add]
    have a1:4294967296*x1*(4294967296*y1)=18446744073709551616*(x1*y1):=by
      rw [Nat.mul_mul_mul_comm]
    have a2:4294967296*x1*y0=4294967296*(x1*y0):=Nat.mul_assoc ..
    have a3:x0*(4294967296*y1)=4294967296*(x0*y1):=Nat.mul_left_comm ..
    rw [a1,a2,a3]
    have a4:(4294967296*x1+x0) % 4294967296=x0:=by rw [← ex]
    omega
  rw [e]
  have p00:=Nat.div_add_mod (x0*y0) 4294967296
  have l00:=Nat.mod_lt (x0*y0) (show 0 < 4294967296 by decide)
  have pt:=Nat.div_add_mod t 4294967296
  have lt:=Nat.mod_lt t (show 0 < 4294967296 by decide)
  have pw:=Nat.div_add_mod w1 4294967296
  have lw:=Nat.mod_lt w1 (show 0 < 4294967296 by decide)
  have et:t=x1*y0+x0*y0 / 4294967296:=rfl
  have ew:w1=t % 4294967296+x0*y1:=rfl
  generalize x1*y1=A at *
  generalize x1*y0=B at *
  generalize x0*y1=C at *
  generalize x0*y0=D at *
  omega

/- one round of the reduction -/
def fl (p h l:Nat):Nat:=l / 2 ^ oW p+2 ^ (64 - oW p)*(h % 2 ^ oW p)
def fm (p l:Nat):Nat:=l % 2 ^ oW p
def fh (p h:Nat):Nat:=h / 2 ^ oW p
def nl (p h l:Nat):Nat:=(fl p h l+fm p l) % 18446744073709551616
def nc (p h l:Nat):Nat:=(fl p h l+fm p l) / 18446744073709551616
def nh (p h l:Nat):Nat:=fh p h+nc p h l
theorem GF {p h l:Nat} (hp:iI p) (hl:l < 18446744073709551616):fl p h l < 18446744073709551616:=by
  have hq:=hp.q
  have h1:l / 2 ^ oW p < 2 ^ (64 - oW p):=tY hl (by omega)
  have h2:h % 2 ^ oW p < 2 ^ oW p:=Nat.mod_lt _ (Nat.two_pow_pos _)
  have h3:2 ^ (64 - oW p)*(h % 2 ^ oW p+1)≤2 ^ (64 - oW p)*2 ^ oW p:=Nat.mul_le_mul_left _ h2
  have w:=LC (q:=oW p) (by omega)
  rw [← w,Nat.mul_add,Nat.mul_one] at h3
  unfold fl;omega
theorem GG {p l:Nat} (hl:l < 18446744073709551616):fm p l < 18446744073709551616:=Nat.lt_of_le_of_lt (Nat.mod_le ..) hl
theorem GJ {p h l:Nat}:nl p h l < 18446744073709551616:=Nat.mod_lt _ (by decide)
theorem GE {p h:Nat} (hp:iI p):fh p h≤h / 32:=by
  have h1:2 ^ 5≤2 ^ oW p:=Nat.pow_le_pow_right (by decide) hp.q.2.1
  exact Nat.div_le_div_left h1 (by decide)
theorem Ju {p h l:Nat} (hp:iI p) (hh:h < 18446744073709551616) (hl:l < 18446744073709551616):nh p h l < 18446744073709551616:=by
  have h1:=GE (h:=h) hp
  have h2:=GF (h:=h) hp hl
  have h3:=GG (p:=p) hl
  have:nc p h l≤1:=by unfold nc;omega
  unfold nh;omega
theorem xU {p h l:Nat} (hp:iI p):nh p h l*18446744073709551616+nl p h l=(h*18446744073709551616+l) / 2 ^ oW p+(h*18446744073709551616+l) % 2 ^ oW p:=by
  have hq:=hp.q
  rw [← CF (hi:=h) (lo:=l) (q:=oW p) (by omega)]
  have h1:=Nat.div_add_mod (fl p h l+fm p l) 18446744073709551616
  unfold nh nl
  change _=fh p h*18446744073709551616+fl p h l+fm p l
  unfold nc
  omega
theorem CC {p h l n:Nat} (hp:iI p) (e:(h*18446744073709551616+l) % p=n % p):(nh p h l*18446744073709551616+nl p h l) % p=n % p:=by
  have hq:=hp.q
  rw [xU hp]
  have:=CE (n:=h*18446744073709551616+l) (q:=oW p) (by omega)
  rw [← hq.1] at this
  rw [this,e]
theorem Jy {p h l:Nat} (hp:iI p) (hl:l < 18446744073709551616):l / 2 ^ oW p ||| h*2 ^ (64 - oW p) % 18446744073709551616=fl p h l:=Jz hl (by have:=hp.q;omega)

def add (p a b:Nat):Nat:=(a+b) % 18446744073709551616 % p
def mul (p a b:Nat):Nat:=a*b % p
def neg (p a:Nat):Nat:=if a=0 then 0 else (p+(18446744073709551616 - a)) % 18446744073709551616
def Kr (p a n:Nat):Nat:=a ^ n % p
def inv (p a:Nat):Nat:=if a=0 then 0 else Kr p a (p - 2)
theorem iI.pos {p:Nat} (h:iI p):0 < p:=by have:=h.lt;omega
def sub (p a b:Nat):Nat:=add p a (neg p b)
end Sp
namespace Sp
theorem Ic {x y:Nat} (hx:x < 18446744073709551616) (hy:y < 18446744073709551616):x*y / 18446744073709551616 < 18446744073709551616:=by
  have:=Nat.mul_le_mul (show x≤18446744073709551615 by omega) (show y≤18446744073709551615 by omega)
  omega
end Sp

/- Prime numbers: Fermat's little theorem, and that the seven supported numbers are prime. Plain Lean, no program. -/
set_option linter.unusedVariables false
namespace Sp
theorem bf {β:Type} {l:List β} {i j:Nat} {v d:β} (h:i < l.length):(l.set i v).getD j d=if i=j then v else l.getD j d:=by
  rw [List.getD_eq_getElem?_getD,List.getD_eq_getElem?_getD,List.getElem?_set]
  split
  · rename_i e;subst e;simp
  · rfl
def Pr (p:Nat):Prop:=2≤p∧∀ d,d ∣ p→d=1 ∨ d=p
theorem Pr.mul {p a b:Nat} (hp:Pr p) (h:p ∣ a*b):p ∣ a ∨ p ∣ b:=by
  rcases hp.2 _ (Nat.gcd_dvd_left p a) with g | g
  · right
    exact Nat.Coprime.dvd_of_dvd_mul_left (show Nat.Coprime p a from g) h
  · left
    rw [← g];exact Nat.gcd_dvd_right p a
theorem yi {l1:List Nat}:∀ {l2:List Nat},l1.Nodup→(∀ x ∈ l1,x ∈ l2)→l1.length=l2.length→l1.Perm l2:=by
  induction l1 with
  | nil=>intro l2 _ _ hl;have:l2=[]:=List.eq_nil_of_length_eq_zero hl.symm;subst this;exact List.Perm.refl _
  | cons x t ih =>
    intro l2 hn hs hl
    have hx:x ∈ l2:=hs x (by simp)
    have hp:=List.perm_cons_erase hx
    have hl2:=hp.length_eq
    rw [List.nodup_cons] at hn
    have:=ih (l2:=l2.erase x) hn.2 (fun y hy=>by
      have hy2:y ∈ l2:=hs y (by simp [hy])
      have hne:y≠x:=fun e=>hn.1 (e ▸ hy)
      exact (List.mem_erase_of_ne hne).2 hy2) (by simp at hl hl2;omega)
    exact (List.Perm.cons x this).trans hp.symm
def uG (l:List Nat):Nat:=l.foldr (·*·) 1
theorem Bu {a b:List Nat} (h:a.Perm b):uG a=uG b:=by
  induction h with
  | nil=>rfl
  | cons x _ ih=>simp only [uG,List.foldr_cons] at *;rw [ih]
  | swap x y l=>simp only [uG,List.foldr_cons];exact Nat.mul_left_comm ..
  | trans _ _ h1 h2=>exact h1.trans h2
theorem Df {p a:Nat} (l:List Nat):uG (l.map (fun x=>a*x % p)) % p=a ^ l.length*uG l % p:=by
  induction l with
  | nil=>simp [uG]
  | cons x t ih =>
    simp only [uG,List.map_cons,List.foldr_cons,List.length_cons] at *
    rw [Nat.mul_mod,ih,Nat.mod_mod,← Nat.mul_mod,Nat.pow_succ]
    congr 1
    rw [Nat.mul_assoc,Nat.mul_assoc,Nat.mul_left_comm x,Nat.mul_left_comm a]
theorem Dh {p:Nat} (hp:Pr p) {l:List Nat} (h:∀ x ∈ l,¬ p ∣ x):¬ p ∣ uG l:=by
  induction l with
  | nil=>intro d;have:=Nat.le_of_dvd (by decide) d;have:=hp.1;simp [uG] at *;omega
  | cons x t ih =>
    intro d
    rcases hp.mul (show p ∣ x*uG t from d) with g | g
    · exact h x (by simp) g
    · exact ih (fun y hy=>h y (by simp [hy])) g
theorem xk {p x y:Nat} (h:x % p=y % p) (hxy:x≤y):p ∣ y - x:=by
  have:=Nat.sub_mod_eq_zero_of_mod_eq (h.symm)
  exact Nat.dvd_of_mod_eq_zero this
theorem Cl {p a:Nat} (hp:Pr p) (ha:¬ p ∣ a):a ^ (p - 1) % p=1:=by
  have h2:=hp.1
  let l:=(List.range (p - 1)).map (·+1)
  have hm:∀ x,x ∈ l ↔ 1≤x∧x < p:=fun x=>by
    simp only [l,List.mem_map,List.mem_range]
    constructor
    · rintro ⟨y,hy,rfl⟩;omega
    · rintro ⟨h1,h3⟩;exact ⟨x - 1,by omega,by omega⟩
  have hl:l.length=p - 1:=by simp [l]
  have hnd:∀ x ∈ l,¬ p ∣ x:=fun x hx d=>by
    have:=(hm x).1 hx
    have:=Nat.le_of_dvd (by omega) d
    omega
  have hlt:∀ x,a*x % p < p:=fun x=>Nat.mod_lt _ (by omega)
  have inj:∀ x ∈ l,∀ y ∈ l,x≤y→a*x % p=a*y % p→x=y:=fun x hx y hy hxy e=>by
    have d:=xk e (Nat.mul_le_mul_left a hxy)
    rw [← Nat.mul_sub] at d
    rcases hp.mul d with g | g
    · exact absurd g ha
    · have hx1:=(hm x).1 hx
      have hy1:=(hm y).1 hy
      rcases Nat.eq_zero_or_pos (y - x) with z | z
      · omega
      · have:=Nat.le_of_dvd z g
        omega
  have hperm:(l.map (fun x=>a*x % p)).Perm l:=by
    apply yi
    · have hnl:l.Nodup:=by
        apply List.Pairwise.map (R:=fun a b=>a≠b)
        · intro a b h;omega
        · exact List.nodup_range
      rw [List.Nodup,List.pairwise_map]
      refine List.Pairwise.imp_of_mem ?_ hnl
      intro x y hx hy hne e
      rcases Nat.le_total x y with g | g
      · exact hne (inj x hx y hy g e)
      · exact hne (inj y hy x hx g e.symm).symm
    · intro z hz
      obtain ⟨x,hx,rfl⟩:=List.mem_map.1 hz
      refine (hm _).2 ⟨?_,hlt x⟩
      rcases Nat.eq_zero_or_pos (a*x % p) with z | z
      · exfalso
        rcases hp.mul (Nat.dvd_of_mod_eq_zero z) with g | g
        · exact ha g
        · exact hnd x hx g
      · exact z
    · simp
  have e:=Df (p:=p) (a:=a) l
  rw [Bu hperm,hl] at e
  have hq:=Dh hp hnd
  generalize uG l=P at e hq
  have ha0:0 < a:=by
    rcases Nat.eq_zero_or_pos a with z | z
    · exact absurd (z ▸ Nat.dvd_zero p) ha
    · exact z
  have h1:0 < a ^ (p - 1):=Nat.pow_pos ha0
  generalize a ^ (p - 1)=A at e h1
  have d:=xk e (Nat.le_mul_of_pos_left P h1)
  have d2:p ∣ (A - 1)*P:=by rw [Nat.sub_mul,Nat.one_mul];exact d
  rcases hp.mul d2 with g | g
  · obtain ⟨k,hk⟩:=g
    have:A=1+p*k:=by omega
    rw [this,Nat.add_mul_mod_self_left]
    exact Nat.mod_eq_of_lt (by omega)
  · exact absurd g hq
/-- the least divisor that is not 1 is prime -/
theorem least {n:Nat} (h:2≤n):∃ r,Pr r∧r ∣ n:=by
  induction n using Nat.strongRecOn with
  | _ n ih =>
    by_cases hp:∀ d,d ∣ n→d=1 ∨ d=n
    · exact ⟨n,⟨h,hp⟩,Nat.dvd_refl n⟩
    · have:∃ d,d ∣ n∧d≠1∧d≠n:=by
        apply Classical.byContradiction
        intro g
        apply hp
        intro d hd
        by_cases h1:d=1
        · exact Or.inl h1
        · by_cases h2:d=n
          · exact Or.inr h2
          · exact absurd ⟨d,hd,h1,h2⟩ g
      obtain ⟨d,hd,h1,h2⟩:=this
      have hle:=Nat.le_of_dvd (by omega) hd
      have h0:d≠0:=fun z=>by subst z;have:=Nat.eq_zero_of_zero_dvd hd;omega
      obtain ⟨r,hr,hrd⟩:=ih d (by omega) (by omega)
      exact ⟨r,hr,Nat.dvd_trans hrd hd⟩
/-- prime, if nothing up to a bound divides -/
theorem JG {p b:Nat} (h2:2≤p) (hb:p < b*b) (h:∀ d,2≤d→d < b→¬ d ∣ p):Pr p:=by
  refine ⟨h2,fun d hd=>?_⟩
  by_cases h1:d=1
  · exact Or.inl h1
  right
  obtain ⟨e,he⟩:=hd
  have hd0:d≠0:=fun z=>by subst z;omega
  by_cases hdb:d < b
  · exact absurd ⟨e,he⟩ (h d (by omega) hdb)
  · have heb:e < b:=by
      apply Classical.byContradiction
      intro g
      have:=Nat.mul_le_mul (show b≤d by omega) (show b≤e by omega)
      omega
    by_cases he1:e=1
    · subst he1;omega
    · have he0:e≠0:=fun z=>by subst z;omega
      exact absurd ⟨d,by rw [Nat.mul_comm];exact he⟩ (h e (by omega) heb)
/-- nothing from d on, n numbers, divides p -/
def Ak (p:Nat):Nat→Nat→Bool
  | 0,_=>true
  | n+1,d=>(p % d != 0) && Ak p n (d+1)
theorem CZ {p:Nat}:∀ {n d},Ak p n d=true→∀ e,d≤e→e < d+n→¬ e ∣ p:=by
  intro n
  induction n with
  | zero=>intro d _ e h1 h2;omega
  | succ n ih =>
    intro d h e h1 h2 hd
    simp only [Ak,Bool.and_eq_true,bne_iff_ne] at h
    by_cases g:e=d
    · subst g;exact h.1 (Nat.mod_eq_zero_of_dvd hd)
    · exact ih h.2 e (by omega) (by omega) hd
theorem lf {p n:Nat} (h2:2≤p) (hb:p < (n+2)*(n+2)) (h:Ak p n 2=true):Pr p :=
  JG (b:=n+2) h2 hb fun d h3 h4=>CZ h d h3 (by omega)
theorem ord {r b m:Nat}:∀ {n},b ^ m % r=1→b ^ n % r=1→b ^ (n % m) % r=1:=by
  intro n hm hn
  have:n=m*(n / m)+n % m:=(Nat.div_add_mod n m).symm
  rw [this,Nat.pow_add,Nat.pow_mul,Nat.mul_mod,Nat.pow_mod,hm] at hn
  by_cases hr:r=0
  · subst hr;simp at *;exact hn
  by_cases hr1:r=1
  · subst hr1;omega
  · rw [Nat.one_pow,Nat.mod_eq_of_lt (show 1 < r by omega),Nat.one_mul,Nat.mod_mod] at hn
    exact hn
theorem FP {r b:Nat}:∀ m n,b ^ m % r=1→b ^ n % r=1→b ^ (Nat.gcd m n) % r=1:=by
  intro m n
  induction m,n using Nat.gcd.induction with
  | H0 n=>intro _ h;simpa using h
  | H1 m n hm ih=>intro h1 h2;rw [Nat.gcd_rec];exact ih (ord h1 h2) h1
/-- Pocklington: a prime divisor is 1 modulo q -/
theorem K7 {p r q b:Nat} (hr:Pr r) (hd:r ∣ p) (hq:Pr q) (h1:b ^ q % p=1) (h2:Nat.gcd (b - 1) p=1) (hp:2≤p) (hb:0 < b):q ∣ r - 1:=by
  have hr2:=hr.1
  have e1:b ^ q % r=1:=by
    rw [← Nat.mod_mod_of_dvd _ hd,h1];exact Nat.mod_eq_of_lt (by omega)
  have hnb:¬ r ∣ b:=fun g=>by
    have:b ^ q % r=0:=Nat.mod_eq_zero_of_dvd (by
      have hq0:q≠0:=by have:=hq.1;omega
      exact Nat.dvd_trans g (Nat.dvd_of_mod_eq_zero (by
        obtain ⟨k,rfl⟩:=Nat.exists_eq_succ_of_ne_zero hq0
        rw [Nat.pow_succ];exact Nat.mul_mod_left _ _)))
    omega
  have e2:=Cl hr hnb
  have e3:=FP q (r - 1) e1 e2
  rcases hq.2 _ (Nat.gcd_dvd_left q (r - 1)) with g | g
  · exfalso
    rw [g,Nat.pow_one] at e3
    have:r ∣ b - 1:=xk (x:=1) (y:=b) (by rw [e3];exact Nat.mod_eq_of_lt (by omega)) hb
    have:=Nat.dvd_gcd this hd
    rw [h2] at this
    have:=Nat.le_of_dvd (by decide) this
    omega
  · rw [← g];exact Nat.gcd_dvd_right _ _
/-- powers modulo p by squaring; k squarings at most -/
def pm (p:Nat):Nat→Nat→Nat→Nat→Nat
  | 0,_,_,o=>o
  | k+1,a,n,o=>if n=0 then o else pm p k (a*a % p) (n / 2) (if n % 2=1 then o*a % p else o)
theorem GO {p:Nat}:∀ {k a n o},n < 2 ^ k→o < p→pm p k a n o=o*a ^ n % p:=by
  intro k
  induction k with
  | zero => intro a n o h ho; have : n = 0 := by simpa using h
            subst this;simp [pm,Nat.mod_eq_of_lt ho]
  | succ k ih =>
    intro a n o h ho
    simp only [pm]
    split
    · next z=>subst z;simp [Nat.mod_eq_of_lt ho]
    · have hn:n / 2 < 2 ^ k:=by rw [Nat.pow_succ] at h;omega
      have hp0:0 < p:=by omega
      by_cases h1:n % 2=1
      · rw [if_pos h1,ih hn (Nat.mod_lt _ hp0)]
        have e:a ^ n=a*(a*a) ^ (n / 2):=by
          have:n=1+2*(n / 2):=by omega
          rw [this,Nat.pow_add,Nat.pow_mul,Nat.pow_one,Nat.pow_two]
          congr 3
        rw [e,Nat.mul_mod,Nat.mod_mod,Nat.pow_mod,Nat.mod_mod,← Nat.pow_mod,← Nat.mul_mod,Nat.mul_assoc]
      · rw [if_neg h1,ih hn ho]
        have e:a ^ n=(a*a) ^ (n / 2):=by
          have:n=2*(n / 2):=by omega
          rw [this,Nat.pow_mul,Nat.pow_two]
          congr 2
        rw [e,Nat.mul_mod,Nat.pow_mod,Nat.mod_mod,← Nat.pow_mod,← Nat.mul_mod]
theorem K8:Pr 31:=lf (n:=4) (by decide) (by decide) (by decide)
theorem JC:Pr 127:=lf (n:=10) (by decide) (by decide) (by decide)
theorem Ik:Pr 8191:=lf (n:=89) (by decide) (by decide) (by decide +kernel)
theorem Dd:Pr 131071:=lf (n:=361) (by decide) (by decide) (by decide +kernel)
theorem De:Pr 524287:=lf (n:=723) (by decide) (by decide) (by decide +kernel)
theorem xb:Pr 2147483647:=lf (n:=46339) (by decide) (by decide) (by decide +kernel)
theorem K9:Pr 61:=lf (n:=6) (by decide) (by decide) (by decide)
theorem JD:Pr 151:=lf (n:=11) (by decide) (by decide) (by decide)
theorem JE:Pr 331:=lf (n:=17) (by decide) (by decide) (by decide)
theorem Ij:Pr 1321:=lf (n:=35) (by decide) (by decide) (by decide +kernel)
def xr:Nat:=2305843009213693951
theorem xa {r q:Nat} (hr:Pr r) (hd:r ∣ xr) (hq:Pr q) (h1:pm xr 62 37 (xr - 1) 1=1) (hm:(xr - 1) / q*q=xr - 1) (h2:Nat.gcd (pm xr 62 37 ((xr - 1) / q) 1 - 1) xr=1) (h3:0 < pm xr 62 37 ((xr - 1) / q) 1) (h4:(xr - 1) / q < 2 ^ 62):q ∣ r - 1:=by
  have e1:37 ^ (xr - 1) % xr=1:=by rw [GO (by decide) (by decide),Nat.one_mul] at h1;exact h1
  refine K7 (b:=pm xr 62 37 ((xr - 1) / q) 1) hr hd hq ?_ h2 (by decide) h3
  rw [GO h4 (by decide),Nat.one_mul,Nat.pow_mod,Nat.mod_mod,← Nat.pow_mod,← Nat.pow_mul,hm]
  exact e1
theorem GA {r:Nat} (hr:Pr r) (hd:r ∣ xr):4027518961 < r:=by
  have a1:=xa hr hd K9 (by decide +kernel) (by decide +kernel) (by decide +kernel) (by decide +kernel) (by decide +kernel)
  have a2:=xa hr hd JD (by decide +kernel) (by decide +kernel) (by decide +kernel) (by decide +kernel) (by decide +kernel)
  have a3:=xa hr hd JE (by decide +kernel) (by decide +kernel) (by decide +kernel) (by decide +kernel) (by decide +kernel)
  have a4:=xa hr hd Ij (by decide +kernel) (by decide +kernel) (by decide +kernel) (by decide +kernel) (by decide +kernel)
  have b1:=Nat.Coprime.mul_dvd_of_dvd_of_dvd (show Nat.Coprime 61 151 by decide) a1 a2
  have b2:=Nat.Coprime.mul_dvd_of_dvd_of_dvd (show Nat.Coprime (61*151) 331 by decide) b1 a3
  have b3:=Nat.Coprime.mul_dvd_of_dvd_of_dvd (show Nat.Coprime (61*151*331) 1321 by decide) b2 a4
  have h2:=hr.1
  clear a1 a2 a3 a4 b1 b2 hd hr
  have h3:0 < r - 1:=by omega
  have h4:=Nat.le_of_dvd h3 b3
  clear b3
  omega
theorem JF:Pr xr:=by
  refine ⟨by decide,fun d hd=>?_⟩
  by_cases h1:d=1
  · exact Or.inl h1
  right
  obtain ⟨e,he⟩:=hd
  have hM:xr=2305843009213693951:=rfl
  have hd0:d≠0:=fun z=>by subst z;omega
  have he0:e≠0:=fun z=>by subst z;omega
  by_cases he1:e=1
  · subst he1;omega
  obtain ⟨r,hr,hrd⟩:=least (n:=d) (by omega)
  obtain ⟨t,ht,htd⟩:=least (n:=e) (by omega)
  have g1:=GA hr (Nat.dvd_trans hrd ⟨e,he⟩)
  have g2:=GA ht (Nat.dvd_trans htd ⟨d,by rw [Nat.mul_comm];exact he⟩)
  have g3:=Nat.le_of_dvd (by omega) hrd
  have g4:=Nat.le_of_dvd (by omega) htd
  have:=Nat.mul_le_mul (show 4027518961≤d by omega) (show 4027518961≤e by omega)
  omega
theorem iI.pr {p:Nat} (h:iI p):Pr p:=by
  rcases h with rfl | rfl | rfl | rfl | rfl | rfl | rfl
  · exact K8
  · exact JC
  · exact Ik
  · exact Dd
  · exact De
  · exact xb
  · exact JF
theorem iI.inv {p a:Nat} (h:iI p) (ha:a % p≠0):a*Kr p a (p - 2) % p=1:=by
  have h1:=h.lt
  have:=Cl h.pr (fun d=>ha (Nat.mod_eq_zero_of_dvd d))
  unfold Kr
  rw [Nat.mul_mod,Nat.mod_mod,← Nat.mul_mod,← Nat.pow_succ']
  rw [show (p - 2).succ=p - 1 by omega];exact this
theorem iI.mul0 {p a b:Nat} (h:iI p) (e:a*b % p=0):a % p=0 ∨ b % p=0:=by
  rcases h.pr.mul (Nat.dvd_of_mod_eq_zero e) with g | g
  · exact Or.inl (Nat.mod_eq_zero_of_dvd g)
  · exact Or.inr (Nat.mod_eq_zero_of_dvd g)
end Sp

/- Polynomials as lists over a commutative ring without zero divisors: evaluation, product, root counting. Plain Lean, no program. -/
set_option linter.unusedVariables false
namespace Sp
open Lean.Grind
section
variable {R:Type} [CommRing R]
def jk:List R→R→R
  | [],_=>0
  | a :: t,x=>a+x*jk t x
/-- the quotient by x - c, of the tail -/
def sd (c:R):List R→List R
  | []=>[]
  | a :: t=>jk (a :: t) c :: sd c t
theorem Iu (c:R) (f:List R):(sd c f).length=f.length:=by
  induction f with
  | nil=>rfl
  | cons a t ih=>simp [sd,ih]
theorem JM (c x a:R) (t:List R):jk (a :: t) x - jk (a :: t) c=(x - c)*jk (sd c t) x:=by
  induction t generalizing a with
  | nil=>simp only [jk,sd];grind
  | cons b t ih =>
    have:=ih b
    simp only [jk,sd] at *
    grind
theorem Gc (c:R) (f:List R) (h:∀ y ∈ sd c f,y=0):jk f c=0∧∀ y ∈ f,y=0:=by
  induction f with
  | nil=>exact ⟨rfl,by simp⟩
  | cons a t ih =>
    simp only [sd,List.mem_cons,forall_eq_or_imp] at h
    obtain ⟨i1,i2⟩:=ih h.2
    refine ⟨h.1,?_⟩
    have:a=0:=by
      have:=h.1
      simp only [jk] at this
      rw [i1] at this
      grind
    simp only [List.mem_cons,forall_eq_or_imp]
    exact ⟨this,i2⟩
/-- as many roots as coefficients: zero -/
theorem roots (nz:∀ a b:R,a*b=0→a=0 ∨ b=0):∀ (f xs:List R),xs.Nodup→f.length≤xs.length→(∀ x ∈ xs,jk f x=0)→∀ y ∈ f,y=0:=by
  intro f xs
  induction xs generalizing f with
  | nil=>intro _ h _;have:f=[]:=List.eq_nil_of_length_eq_zero (by simpa using h);subst this;simp
  | cons c xs ih =>
    intro hn hl h
    cases f with
    | nil=>simp
    | cons a t =>
      rw [List.nodup_cons] at hn
      have hc:jk (a :: t) c=0:=h c (by simp)
      have:=ih (sd c t) hn.2 (by rw [Iu];simpa using hl) (fun x hx=>by
        have e:=JM c x a t
        rw [h x (by simp [hx]),hc] at e
        have e2:(x - c)*jk (sd c t) x=0:=by grind
        rcases nz _ _ e2 with g | g
        · exfalso;apply hn.1
          have:x=c:=by grind
          exact this ▸ hx
        · exact g)
      obtain ⟨i1,i2⟩:=Gc c t this
      have ha:a=0:=by
        simp only [jk] at hc
        rw [i1] at hc
        grind
      simp only [List.mem_cons,forall_eq_or_imp]
      exact ⟨ha,i2⟩
def cf (f:List R) (i:Nat):R:=f.getD i 0
def ou:List R→List R→List R
  | [],g=>g
  | f,[]=>f
  | a :: f,b :: g=>(a+b) :: ou f g
def xj (k:R) (f:List R):List R:=f.map (k*·)
def ym (f g:List R):List R:=ou f (xj (-1) g)
def yl:List R→List R→List R
  | [],_=>[]
  | a :: f,g=>ou (xj a g) (0 :: yl f g)
theorem vc (f g:List R) (x:R):jk (ou f g) x=jk f x+jk g x:=by
  induction f,g using ou.induct with
  | case1 g=>simp only [ou,jk];grind
  | case2 f h=>cases f with
    | nil=>simp only [ou,jk];grind
    | cons a f=>simp only [ou,jk];grind
  | case3 a f b g ih=>simp only [ou,jk,ih];grind
theorem vd (k:R) (f:List R) (x:R):jk (xj k f) x=k*jk f x:=by
  unfold xj
  induction f with
  | nil=>simp only [List.map,jk];grind
  | cons a f ih=>simp only [List.map,jk,ih];grind
theorem xO (f g:List R) (x:R):jk (ym f g) x=jk f x - jk g x:=by
  unfold ym;rw [vc,vd];grind
theorem Ch (f g:List R) (x:R):jk (yl f g) x=jk f x*jk g x:=by
  induction f with
  | nil=>simp only [yl,jk];grind
  | cons a f ih=>simp only [yl,vc,vd,jk,ih];grind
theorem vq (f g:List R):(ou f g).length=max f.length g.length:=by
  induction f,g using ou.induct with
  | case1 g=>simp [ou]
  | case2 f h=>cases f <;> simp [ou]
  | case3 a f b g ih=>simp [ou,ih]
theorem vx (k:R) (f:List R):(xj k f).length=f.length:=by simp [xj]
theorem Di (f g:List R):(ym f g).length=max f.length g.length:=by rw [ym,vq,vx]
theorem Bt (f g:List R) (h:1≤g.length):(yl f g).length≤f.length+g.length - 1:=by
  induction f with
  | nil=>simp [yl]
  | cons a f ih=>simp only [yl,vq,vx,List.length_cons];omega
theorem va (i:Nat):cf ([]:List R) i=0:=by simp [cf]
theorem uL (a:R) (f:List R):cf (a :: f) 0=a:=by simp [cf]
theorem uK (a:R) (f:List R) (i:Nat):cf (a :: f) (i+1)=cf f i:=by simp [cf]
theorem Et (f g:List R) (i:Nat):cf (ou f g) i=cf f i+cf g i:=by
  induction f,g using ou.induct generalizing i with
  | case1 g=>simp only [ou,va];grind
  | case2 f h=>cases f with
    | nil=>simp only [ou,va];grind
    | cons a f=>simp only [ou,va];grind
  | case3 a f b g ih=>cases i with
    | zero=>simp only [ou,uL]
    | succ i=>simp only [ou,uK,ih]
theorem Eu (k:R) (f:List R) (i:Nat):cf (xj k f) i=k*cf f i:=by
  unfold xj
  induction f generalizing i with
  | nil=>simp only [List.map,va];grind
  | cons a f ih=>cases i with
    | zero=>simp only [List.map,uL]
    | succ i=>simp only [List.map,uK,ih]
theorem zQ (f g:List R) (i:Nat):cf (ym f g) i=cf f i - cf g i:=by
  unfold ym;rw [Et,Eu];grind
theorem Jf {f:List R} {i:Nat} (h:f.length≤i):cf f i=0:=by simp [cf,h]
theorem G3 {f:List R} (h:∀ y ∈ f,y=0) (i:Nat):cf f i=0:=by
  by_cases g:i < f.length
  · unfold cf;rw [List.getD_eq_getElem?_getD,List.getElem?_eq_getElem g];exact h _ (List.getElem_mem g)
  · exact Jf (by omega)
/-- equal at enough places: equal coefficients -/
theorem A8 (nz:∀ a b:R,a*b=0→a=0 ∨ b=0) {f g xs:List R} (hn:xs.Nodup) (hf:f.length≤xs.length) (hg:g.length≤xs.length) (h:∀ x ∈ xs,jk f x=jk g x) (i:Nat):cf f i=cf g i:=by
  have:=roots nz (ym f g) xs hn (by rw [Di];omega) (fun x hx=>by rw [xO,h x hx];grind)
  have:=G3 this i
  rw [zQ] at this
  grind
theorem zT {f:List R} (h:∀ i,cf f i=0) (x:R):jk f x=0:=by
  induction f with
  | nil=>rfl
  | cons a f ih =>
    have h0:=h 0
    rw [uL] at h0
    simp only [jk,h0,ih (fun i=>by have:=h (i+1);rwa [uK] at this)];grind
theorem A9 {f g:List R} (h:∀ i,cf f i=cf g i) (x:R):jk f x=jk g x:=by
  have:=zT (f:=ym f g) (fun i=>by rw [zQ,h i];grind) x
  rw [xO] at this
  grind
end
end Sp

/- Elimination of Gauss and Jordan over a commutative ring: what it keeps. Plain Lean, no program. -/
set_option linter.unusedVariables false
namespace Sp
open Lean.Grind
section
variable {R:Type} [CommRing R]
def sm:Nat→(Nat→R)→R
  | 0,_=>0
  | n+1,f=>sm n f+f n
theorem fv {n:Nat} {f g:Nat→R} (h:∀ j,j < n→f j=g j):sm n f=sm n g:=by
  induction n with
  | zero=>rfl
  | succ n ih=>simp only [sm];rw [ih (fun j hj=>h j (by omega)),h n (by omega)]
theorem uV {n:Nat} {f:Nat→R} (h:∀ j,j < n→f j=0):sm n f=0:=by
  induction n with
  | zero=>rfl
  | succ n ih=>simp only [sm];rw [ih (fun j hj=>h j (by omega)),h n (by omega)];grind
theorem Iw {n:Nat} (f g:Nat→R):sm n (fun j=>f j+g j)=sm n f+sm n g:=by
  induction n with
  | zero=>simp only [sm];grind
  | succ n ih=>simp only [sm,ih];grind
theorem uh {n:Nat} (k:R) (f:Nat→R):sm n (fun j=>k*f j)=k*sm n f:=by
  induction n with
  | zero=>simp only [sm];grind
  | succ n ih=>simp only [sm,ih];grind
/-- one place more -/
theorem Ix {n c:Nat} (hc:c < n) (f g:Nat→R) (x:R) (hx:g c=x+f c) (h:∀ j,j < n→j≠c→g j=f j):sm n g=sm n f+x:=by
  induction n with
  | zero=>omega
  | succ n ih =>
    simp only [sm]
    by_cases e:c=n
    · subst e
      rw [fv (f:=g) (g:=f) (fun j hj=>h j (by omega) (by omega)),hx];grind
    · rw [ih (by omega) (fun j hj hne=>h j (by omega) hne),h n (by omega) (fun z=>e z.symm)];grind
def dot (n:Nat) (row v:Nat→R):R:=sm n (fun j=>row j*v j)
theorem vQ {n:Nat} {a b v:Nat→R} (h:∀ j,j < n→a j=b j):dot n a v=dot n b v:=fv fun j hj=>by rw [h j hj]
def KM (h n:Nat) (M:Nat→Nat→R) (v:Nat→R):Prop:=∀ i,i < h→dot n (M i) v=M i n
structure Jc (h n:Nat) (M0 M:Nat→Nat→R) (k:Nat) (piv:Nat→Nat) (c:Nat):Prop where
  sol:∀ v,KM h n M0 v ↔ KM h n M v
  len:k≤h
  lt:∀ r,r < k→piv r < c
  cn:c≤n
  unit:∀ r,r < k→∀ i,i < h→M i (piv r)=if i=r then 1 else 0
  low:∀ i,k≤i→i < h→∀ j,j < c→M i j=0
variable {h n k c:Nat} {M0 M M':Nat→Nat→R} {piv:Nat→Nat}
theorem Jc.congr (e:∀ i,i < h→∀ j,j≤n→M' i j=M i j) (r:Jc h n M0 M k piv c):Jc h n M0 M' k piv c:=by
  refine ⟨fun v=>(r.sol v).trans ?_,r.len,r.lt,r.cn,fun s hs i hi=>?_,fun i h1 h2 j hj=>?_⟩
  · constructor <;> intro g i hi
    · rw [vQ (b:=M i) (fun j hj=>e i hi j (by omega)),e i hi n (by omega)];exact g i hi
    · rw [← e i hi n (by omega),← vQ (a:=M' i) (fun j hj=>e i hi j (by omega))];exact g i hi
  · rw [e i hi _ (by have:=r.lt s hs;have:=r.cn;omega)];exact r.unit s hs i hi
  · rw [e i h2 _ (by have:=r.cn;omega)];exact r.low i h1 h2 j hj
/-- the end: where there is a solution nothing is left over -/
theorem Jc.rest (r:Jc h n M0 M k piv n) {v:Nat→R} (hv:KM h n M0 v) {i:Nat} (h1:k≤i) (h2:i < h):M i n=0:=by
  have:=(r.sol v).1 hv i h2
  rw [← this]
  exact uV fun j hj=>by rw [r.low i h1 h2 j hj];grind
end
end Sp

/- The field of a supported prime: numbers below p as a commutative ring without zero divisors. Plain Lean, no program. -/
set_option linter.unusedVariables false
namespace Sp
open Lean.Grind
/-- a number modulo p -/
def o (p:Nat) [NeZero p] (n:Nat):Fin p:=Fin.ofNat p n
section
variable {p:Nat} [NeZero p]
theorem FO {a b:Nat}:o p a=o p b ↔ a % p=b % p:=by
  constructor
  · intro h;exact congrArg Fin.val h
  · intro h;exact Fin.ext h
theorem sG {a:Nat}:o p (a % p)=o p a:=FO.2 (Nat.mod_mod a p)
theorem vp (a:Fin p):o p a.val=a:=Fin.ext (Nat.mod_eq_of_lt a.isLt)
theorem ut {a b:Nat} (ha:a < p) (hb:b < p) (h:o p a=o p b):a=b:=by
  rw [FO,Nat.mod_eq_of_lt ha,Nat.mod_eq_of_lt hb] at h;exact h
theorem Am {a b:Nat}:o p (a+b)=o p a+o p b:=by
  apply Fin.ext;simp [o,Fin.add_def]
theorem uu {a b:Nat}:o p (a*b)=o p a*o p b:=by
  apply Fin.ext;simp [o,Fin.mul_def,Nat.mul_mod]
theorem rC:o p 0=0:=by apply Fin.ext;simp [o]
theorem Ap:o p 1=1:=rfl
theorem Ao {a:Nat}:o p a=0 ↔ a % p=0:=by rw [← rC,FO,Nat.zero_mod]
end
theorem iI.ne {p:Nat} (h:iI p):NeZero p:=⟨by have:=h.lt;omega⟩
theorem iI.nz {p:Nat} [NeZero p] (h:iI p) (a b:Fin p) (e:a*b=0):a=0 ∨ b=0:=by
  rw [← vp a,← vp b,← uu,Ao] at e
  rw [← vp a,← vp b,Ao,Ao]
  exact h.mul0 e
theorem iI.one {p:Nat} [NeZero p] (h:iI p):(1:Fin p)≠0:=by
  rw [← Ap,← rC]
  intro e
  have:=h.lt
  have:=ut (by omega) (by omega) e
  omega
theorem iI.oinv {p a:Nat} [NeZero p] (h:iI p) (ha:a % p≠0):o p (Kr p a (p - 2))*o p a=1:=by
  rw [← uu,← Ap,FO,Nat.mul_comm,h.inv ha,Nat.mod_eq_of_lt]
  have:=h.lt;omega
end Sp

/- The equations of Berlekamp and Welch: what a solution says, and that there is one. Plain Lean, no program. -/
set_option linter.unusedVariables false
namespace Sp
open Lean.Grind
section
variable {R:Type} [CommRing R]
theorem DG {n:Nat} (f:Nat→R):sm (n+1) f=f 0+sm n (fun j=>f (j+1)):=by
  induction n with
  | zero=>simp only [sm];grind
  | succ n ih=>rw [sm,ih,sm];grind
theorem wG {n:Nat} {f:List R} (x:R) (h:f.length≤n):jk f x=sm n (fun j=>cf f j*x ^ j):=by
  induction f generalizing n with
  | nil=>rw [uV (fun j _=>by rw [va];grind)];rfl
  | cons a f ih =>
    cases n with
    | zero=>simp at h
    | succ n =>
      rw [DG,jk,ih (n:=n) (by simpa using h),← uh,uL]
      rw [fv (f:=fun j=>x*(cf f j*x ^ j)) (g:=fun j=>cf (a :: f) (j+1)*x ^ (j+1)) (fun j _=>by rw [uK];grind)]
      grind
end
end Sp

/- The folding of a product modulo a Mersenne prime ends. Plain Lean, no program. -/
set_option linter.unusedVariables false
namespace Sp
def G8 (h l:Nat):Nat:=if h=0 then l / 4 else 4611686018427387904+h
theorem G7 {p l:Nat} (hp:iI p) (hl:l < 18446744073709551616):l &&& p=fm p l:=by
  have:=hp.q
  unfold fm
  conv=>lhs;rw [this.1]
  exact Nat.and_two_pow_sub_one_eq_mod l (oW p)
theorem CX {p h l:Nat} (hp:iI p) (hh:h < 18446744073709551616) (hl:l < 18446744073709551616) (h0:h≠0):nh p h l < h:=by
  have hq:=hp.q
  have h1:=GE (h:=h) hp
  have h2:=GF (h:=h) hp hl
  have h3:=GG (p:=p) hl
  have hc:nc p h l≤1:=by unfold nc;omega
  unfold nh
  by_cases g:h=1
  · subst g
    have:nc p 1 l=0:=by
      unfold nc
      rw [Nat.div_eq_zero_iff]
      right
      have a1:fm p l < 2305843009213693952:=by
        unfold fm
        have:2 ^ oW p≤2 ^ 61:=Nat.pow_le_pow_right (by decide) hq.2.2
        have:=Nat.mod_lt l (Nat.two_pow_pos (oW p))
        omega
      have a2:fl p 1 l < 1152921504606846976:=by
        unfold fl
        have e1:l / 2 ^ oW p < 2 ^ (64 - oW p):=tY hl (by omega)
        have e2:1 % 2 ^ oW p≤1:=Nat.mod_le _ _
        have e3:2 ^ (64 - oW p)≤2 ^ 59:=Nat.pow_le_pow_right (by decide) (by omega)
        have e4:2 ^ (64 - oW p)*(1 % 2 ^ oW p)≤2 ^ (64 - oW p)*1:=Nat.mul_le_mul_left _ e2
        omega
      omega
    omega
  · omega
theorem CY {p l:Nat} (hp:iI p) (hl:l < 18446744073709551616) (h0:p < l):nh p 0 l=0∧nl p 0 l+31≤l:=by
  have hq:=hp.q
  have e:=xU (p:=p) (h:=0) (l:=l) hp
  rw [Nat.zero_mul,Nat.zero_add] at e
  have hle:=hp.lt
  have hP:2 ^ oW p=p+1:=by have:=Nat.two_pow_pos (oW p);omega
  rw [hP] at e
  have d:=Nat.div_add_mod l (p+1)
  have hk:1≤l / (p+1):=(Nat.le_div_iff_mul_le (by omega)).2 (by omega)
  have:l / (p+1)+31≤(p+1)*(l / (p+1)):=by
    have:=Nat.mul_le_mul_right (l / (p+1)) (show 32≤p+1 by omega)
    omega
  have hs:nh p 0 l*18446744073709551616+nl p 0 l+31≤l:=by omega
  constructor
  · apply Classical.byContradiction
    intro g
    have:1≤nh p 0 l:=by omega
    have:=Nat.mul_le_mul_right 18446744073709551616 this
    omega
  · omega
theorem ED {p h l:Nat} (hp:iI p) (hh:h < 4611686018427387904) (hl:l < 18446744073709551616) (c:h≠0 ∨ p < l):G8 (nh p h l) (nl p h l) < G8 h l:=by
  by_cases h0:h=0
  · subst h0
    have:=CY hp hl (by omega)
    unfold G8
    rw [if_pos this.1,if_pos rfl];omega
  · have:=CX hp (by omega) hl h0
    have h3:=GJ (p:=p) (h:=h) (l:=l)
    unfold G8
    rw [if_neg h0]
    split <;> omega
theorem G9 {h l:Nat} (hh:h < 4611686018427387904) (hl:l < 18446744073709551616):G8 h l < 18446744073709551616:=by
  unfold G8;split <;> omega
end Sp
