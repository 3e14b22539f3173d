/- Plain facts on the primes 2^q - 1 and on words of 64 bits. No Go in it. -/
set_option linter.unusedVariables false
namespace Sp
/-- The supported primes. -/
def fX (p:Nat):Prop:=p=31 ∨ p=127 ∨ p=8191 ∨ p=131071 ∨ p=524287 ∨ p=2147483647 ∨ p=2305843009213693951
def qP (p:Nat):Nat:=if p=31 then 5 else if p=127 then 7 else if p=8191 then 13 else if p=131071 then 17 else if p=524287 then 19 else if p=2147483647 then 31 else 61
theorem fX.q {p:Nat} (h:fX p):p=2 ^ qP p - 1∧5≤qP p∧qP p≤61:=by
  rcases h with rfl | rfl | rfl | rfl | rfl | rfl | rfl <;> decide
theorem fX.lt {p:Nat} (h:fX p):31≤p∧p≤2305843009213693951:=by
  rcases h with rfl | rfl | rfl | rfl | rfl | rfl | rfl <;> decide

theorem LW {a b i:Nat} (h:b < 2 ^ i):2 ^ i*a ||| b=2 ^ i*a+b:=(Nat.two_pow_add_eq_or_of_lt h a).symm

theorem P8 {q:Nat} (hq:q≤64):18446744073709551616=2 ^ (64 - q)*2 ^ q:=by
  rw [← Nat.pow_add,show 64 - q+q=64 by omega]
/-- hi << (64 - q) -/
theorem Mh {hi q:Nat} (hq:q≤64):hi*2 ^ (64 - q) % 18446744073709551616=2 ^ (64 - q)*(hi % 2 ^ q):=by
  have e:18446744073709551616=2 ^ (64 - q)*2 ^ q:=by rw [← Nat.pow_add,show 64 - q+q=64 by omega]
  rw [e,Nat.mul_comm hi,Nat.mul_mod_mul_left]
theorem wb {lo q:Nat} (hlo:lo < 18446744073709551616) (hq:q≤64):lo / 2 ^ q < 2 ^ (64 - q):=by
  rw [Nat.div_lt_iff_lt_mul (Nat.two_pow_pos q),← Nat.pow_add,show 64 - q+q=64 by omega];exact hlo
/-- the low word of n >> q -/
theorem Nu {hi lo q:Nat} (hlo:lo < 18446744073709551616) (hq:q≤64):lo / 2 ^ q ||| hi*2 ^ (64 - q) % 18446744073709551616=lo / 2 ^ q+2 ^ (64 - q)*(hi % 2 ^ q):=by
  rw [Mh hq,Nat.or_comm,LW (wb hlo hq),Nat.add_comm]

/-- One round: the bits above q are added to those below. -/
theorem DW {W A B hi lo:Nat} (hB:0 < B) (w:W=A*B):hi / B*W+(lo / B+A*(hi % B))+lo % B=(hi*W+lo) / B+(hi*W+lo) % B:=by
  have hs:hi*W=B*(A*hi):=by rw [w,Nat.mul_comm,Nat.mul_comm A B,Nat.mul_assoc]
  have e1:(B*(A*hi)+lo) / B=A*hi+lo / B:=Nat.mul_add_div hB ..
  have e2:(B*(A*hi)+lo) % B=lo % B:=Nat.mul_add_mod ..
  rw [hs,e1,e2]
  have h3:A*hi=hi / B*W+A*(hi % B):=by
    have t:hi=B*(hi / B)+hi % B:=(Nat.div_add_mod ..).symm
    have h64:A*(B*(hi / B))=hi / B*W:=by
      rw [← Nat.mul_assoc,← w,Nat.mul_comm]
    rw [← h64,← Nat.mul_add,← t]
  generalize hi / B*W=X at *
  generalize A*(hi % B)=Y at *
  rw [h3]
  omega
theorem Fy {hi lo q:Nat} (hq:q≤64):hi / 2 ^ q*18446744073709551616+(lo / 2 ^ q+2 ^ (64 - q)*(hi % 2 ^ q))+lo % 2 ^ q=(hi*18446744073709551616+lo) / 2 ^ q+(hi*18446744073709551616+lo) % 2 ^ q :=
  DW (Nat.two_pow_pos q) (P8 hq)
theorem Fw {n q:Nat} (hq:1≤q):(n / 2 ^ q+n % 2 ^ q) % (2 ^ q - 1)=n % (2 ^ q - 1):=by
  have h2:2≤2 ^ q:=by
    have:=Nat.pow_le_pow_right (show 0 < 2 by decide) hq
    simpa using this
  have e:n=(2 ^ q - 1)*(n / 2 ^ q)+(n / 2 ^ q+n % 2 ^ q):=by
    have h:=(Nat.div_add_mod n (2 ^ q)).symm
    have:(2 ^ q - 1)*(n / 2 ^ q)+n / 2 ^ q=2 ^ q*(n / 2 ^ q):=by
      rw [Nat.sub_mul,Nat.one_mul]
      have:n / 2 ^ q≤2 ^ q*(n / 2 ^ q):=Nat.le_mul_of_pos_left _ (by omega)
      omega
    omega
  conv=>rhs;rw [e]
  rw [Nat.mul_add_mod]
/-- products of words -/
theorem C9 {a b:Nat} (ha:a < 4294967296) (hb:b < 4294967296):a*b≤18446744065119617025:=by
  have:=Nat.mul_le_mul (show a≤4294967295 by omega) (show b≤4294967295 by omega)
  omega
theorem Nn (x y:Nat) :
    let x0:=x % 4294967296;let x1:=x / 4294967296;let y0:=y % 4294967296;let y1:=y / 4294967296
    let t:=x1*y0+x0*y0 / 4294967296
    let w1:=t % 4294967296+x0*y1
    x1*y1+t / 4294967296+w1 / 4294967296=x*y / 18446744073709551616:=by
  intro x0 x1 y0 y1 t w1
  have ex:x=4294967296*x1+x0:=(Nat.div_add_mod ..).symm
  have ey:y=4294967296*y1+y0:=(Nat.div_add_mod ..).symm
  have e:x*y=18446744073709551616*(x1*y1)+4294967296*(x1*y0)+4294967296*(x0*y1)+x0*y0:=by
    rw [ex,ey,Nat.add_mul,Nat.mul_add,Nat.mul_add]
    have a1:4294967296*x1*(4294967296*y1)=18446744073709551616*(x1*y1):=by
      rw [Nat.mul_mul_mul_comm]
    have a2:4294967296*x1*y0=4294967296*(x1*y0):=Nat.mul_assoc ..
    have a3:x0*(4294967296*y1)=4294967296*(x0*y1):=Nat.mul_left_comm ..
    rw [a1,a2,a3]
    have a4:(4294967296*x1+x0) % 4294967296=x0:=by rw [← ex]
    omega
  rw [e]
  have p00:=Nat.div_add_mod (x0*y0) 4294967296
  have l00:=Nat.mod_lt (x0*y0) (show 0 < 4294967296 by decide)
  have pt:=Nat.div_add_mod t 4294967296
  have lt:=Nat.mod_lt t (show 0 < 4294967296 by decide)
  have pw:=Nat.div_add_mod w1 4294967296
  have lw:=Nat.mod_lt w1 (show 0 < 4294967296 by decide)
  have et:t=x1*y0+x0*y0 / 4294967296:=rfl
  have ew:w1=t % 4294967296+x0*y1:=rfl
  generalize x1*y1=A at *
  generalize x1*y0=B at *
  generalize x0*y1=C at *
  generalize x0*y0=D at *
  omega

/- one round of the reduction -/
def fl (p h l:Nat):Nat:=l / 2 ^ qP p+2 ^ (64 - qP p)*(h % 2 ^ qP p)
def fm (p l:Nat):Nat:=l % 2 ^ qP p
def fh (p h:Nat):Nat:=h / 2 ^ qP p
def nl (p h l:Nat):Nat:=(fl p h l+fm p l) % 18446744073709551616
def nc (p h l:Nat):Nat:=(fl p h l+fm p l) / 18446744073709551616
def nh (p h l:Nat):Nat:=fh p h+nc p h l
theorem Ko {p h l:Nat} (hp:fX p) (hl:l < 18446744073709551616):fl p h l < 18446744073709551616:=by
  have hq:=hp.q
  have h1:l / 2 ^ qP p < 2 ^ (64 - qP p):=wb hl (by omega)
  have h2:h % 2 ^ qP p < 2 ^ qP p:=Nat.mod_lt _ (Nat.two_pow_pos _)
  have h3:2 ^ (64 - qP p)*(h % 2 ^ qP p+1)≤2 ^ (64 - qP p)*2 ^ qP p:=Nat.mul_le_mul_left _ h2
  have w:=P8 (q:=qP p) (by omega)
  rw [← w,Nat.mul_add,Nat.mul_one] at h3
  unfold fl;omega
theorem Kp {p l:Nat} (hl:l < 18446744073709551616):fm p l < 18446744073709551616:=Nat.lt_of_le_of_lt (Nat.mod_le ..) hl
theorem Kw {p h l:Nat}:nl p h l < 18446744073709551616:=Nat.mod_lt _ (by decide)
theorem Kn {p h:Nat} (hp:fX p):fh p h≤h / 32:=by
  have h1:2 ^ 5≤2 ^ qP p:=Nat.pow_le_pow_right (by decide) hp.q.2.1
  exact Nat.div_le_div_left h1 (by decide)
theorem Np {p h l:Nat} (hp:fX p) (hh:h < 18446744073709551616) (hl:l < 18446744073709551616):nh p h l < 18446744073709551616:=by
  have h1:=Kn (h:=h) hp
  have h2:=Ko (h:=h) hp hl
  have h3:=Kp (p:=p) hl
  have:nc p h l≤1:=by unfold nc;omega
  unfold nh;omega
theorem A2 {p h l:Nat} (hp:fX p):nh p h l*18446744073709551616+nl p h l=(h*18446744073709551616+l) / 2 ^ qP p+(h*18446744073709551616+l) % 2 ^ qP p:=by
  have hq:=hp.q
  rw [← Fy (hi:=h) (lo:=l) (q:=qP p) (by omega)]
  have h1:=Nat.div_add_mod (fl p h l+fm p l) 18446744073709551616
  unfold nh nl
  change _=fh p h*18446744073709551616+fl p h l+fm p l
  unfold nc
  omega
theorem Fv {p h l n:Nat} (hp:fX p) (e:(h*18446744073709551616+l) % p=n % p):(nh p h l*18446744073709551616+nl p h l) % p=n % p:=by
  have hq:=hp.q
  rw [A2 hp]
  have:=Fw (n:=h*18446744073709551616+l) (q:=qP p) (by omega)
  rw [← hq.1] at this
  rw [this,e]
theorem Nt {p h l:Nat} (hp:fX p) (hl:l < 18446744073709551616):l / 2 ^ qP p ||| h*2 ^ (64 - qP p) % 18446744073709551616=fl p h l:=Nu hl (by have:=hp.q;omega)

def add (p a b:Nat):Nat:=(a+b) % 18446744073709551616 % p
def mul (p a b:Nat):Nat:=a*b % p
def neg (p a:Nat):Nat:=if a=0 then 0 else (p+(18446744073709551616 - a)) % 18446744073709551616
def JF (p a n:Nat):Nat:=a ^ n % p
def inv (p a:Nat):Nat:=if a=0 then 0 else JF p a (p - 2)
theorem fX.pos {p:Nat} (h:fX p):0 < p:=by have:=h.lt;omega
theorem LZ {p a b:Nat} (h:fX p):JF p a b < p:=Nat.mod_lt _ h.pos
/-- repeated squaring -/
theorem pow_odd {p o a n z:Nat} (e:o*a ^ n % p=z) (h:n % 2=1):mul p o a*mul p a a ^ (n / 2) % p=z:=by
  have:n=2*(n / 2)+1:=by omega
  rw [← e]
  conv=>rhs;rw [this]
  rw [Nat.pow_succ,Nat.pow_mul]
  unfold mul
  rw [Nat.mul_mod,Nat.mod_mod,Nat.pow_mod,Nat.mod_mod,← Nat.pow_mod,← Nat.mul_mod,Nat.pow_two,Nat.mul_assoc,Nat.mul_comm a]
theorem pow_even {p o a n z:Nat} (e:o*a ^ n % p=z) (h:n % 2=0):o*mul p a a ^ (n / 2) % p=z:=by
  have:n=2*(n / 2):=by omega
  rw [← e]
  conv=>rhs;rw [this]
  rw [Nat.pow_mul]
  unfold mul
  rw [Nat.mul_mod,Nat.pow_mod,Nat.mod_mod,← Nat.pow_mod,← Nat.mul_mod,Nat.pow_two]
def sub (p a b:Nat):Nat:=add p a (neg p b)
end Sp
namespace Sp
theorem LS {x y:Nat} (hx:x < 18446744073709551616) (hy:y < 18446744073709551616):x*y / 18446744073709551616 < 18446744073709551616:=by
  have:=Nat.mul_le_mul (show x≤18446744073709551615 by omega) (show y≤18446744073709551615 by omega)
  omega
end Sp

/- Prime numbers: Fermat's little theorem, and that the seven supported numbers are prime. Plain Lean, no program. -/
set_option linter.unusedVariables false
namespace Sp
theorem aL {β:Type} {l:List β} {i j:Nat} {v d:β} (h:i < l.length):(l.set i v).getD j d=if i=j then v else l.getD j d:=by
  rw [List.getD_eq_getElem?_getD,List.getD_eq_getElem?_getD,List.getElem?_set]
  split
  · rename_i e;subst e;simp
  · rfl
def Pr (p:Nat):Prop:=2≤p∧∀ d,d ∣ p→d=1 ∨ d=p
theorem Pr.mul {p a b:Nat} (hp:Pr p) (h:p ∣ a*b):p ∣ a ∨ p ∣ b:=by
  rcases hp.2 _ (Nat.gcd_dvd_left p a) with g | g
  · right
    exact Nat.Coprime.dvd_of_dvd_mul_left (show Nat.Coprime p a from g) h
  · left
    rw [← g];exact Nat.gcd_dvd_right p a
theorem Bj {l1:List Nat}:∀ {l2:List Nat},l1.Nodup→(∀ x ∈ l1,x ∈ l2)→l1.length=l2.length→l1.Perm l2:=by
  induction l1 with
  | nil=>intro l2 _ _ hl;have:l2=[]:=List.eq_nil_of_length_eq_zero hl.symm;subst this;exact List.Perm.refl _
  | cons x t ih =>
    intro l2 hn hs hl
    have hx:x ∈ l2:=hs x (by simp)
    have hp:=List.perm_cons_erase hx
    have hl2:=hp.length_eq
    rw [List.nodup_cons] at hn
    have:=ih (l2:=l2.erase x) hn.2 (fun y hy=>by
      have hy2:y ∈ l2:=hs y (by simp [hy])
      have hne:y≠x:=fun e=>hn.1 (e ▸ hy)
      exact (List.mem_erase_of_ne hne).2 hy2) (by simp at hl hl2;omega)
    exact (List.Perm.cons x this).trans hp.symm
def wV (l:List Nat):Nat:=l.foldr (·*·) 1
theorem D9 {a b:List Nat} (h:a.Perm b):wV a=wV b:=by
  induction h with
  | nil=>rfl
  | cons x _ ih=>simp only [wV,List.foldr_cons] at *;rw [ih]
  | swap x y l=>simp only [wV,List.foldr_cons];exact Nat.mul_left_comm ..
  | trans _ _ h1 h2=>exact h1.trans h2
theorem Gx {p a:Nat} (l:List Nat):wV (l.map (fun x=>a*x % p)) % p=a ^ l.length*wV l % p:=by
  induction l with
  | nil=>simp [wV]
  | cons x t ih =>
    simp only [wV,List.map_cons,List.foldr_cons,List.length_cons] at *
    rw [Nat.mul_mod,ih,Nat.mod_mod,← Nat.mul_mod,Nat.pow_succ]
    congr 1
    rw [Nat.mul_assoc,Nat.mul_assoc,Nat.mul_left_comm x,Nat.mul_left_comm a]
theorem Gy {p:Nat} (hp:Pr p) {l:List Nat} (h:∀ x ∈ l,¬ p ∣ x):¬ p ∣ wV l:=by
  induction l with
  | nil=>intro d;have:=Nat.le_of_dvd (by decide) d;have:=hp.1;simp [wV] at *;omega
  | cons x t ih =>
    intro d
    rcases hp.mul (show p ∣ x*wV t from d) with g | g
    · exact h x (by simp) g
    · exact ih (fun y hy=>h y (by simp [hy])) g
theorem Af {p x y:Nat} (h:x % p=y % p) (hxy:x≤y):p ∣ y - x:=by
  have:=Nat.sub_mod_eq_zero_of_mod_eq (h.symm)
  exact Nat.dvd_of_mod_eq_zero this
theorem Fc {p a:Nat} (hp:Pr p) (ha:¬ p ∣ a):a ^ (p - 1) % p=1:=by
  have h2:=hp.1
  let l:=(List.range (p - 1)).map (·+1)
  have hm:∀ x,x ∈ l ↔ 1≤x∧x < p:=fun x=>by
    simp only [l,List.mem_map,List.mem_range]
    constructor
    · rintro ⟨y,hy,rfl⟩;omega
    · rintro ⟨h1,h3⟩;exact ⟨x - 1,by omega,by omega⟩
  have hl:l.length=p - 1:=by simp [l]
  have hnd:∀ x ∈ l,¬ p ∣ x:=fun x hx d=>by
    have:=(hm x).1 hx
    have:=Nat.le_of_dvd (by omega) d
    omega
  have hlt:∀ x,a*x % p < p:=fun x=>Nat.mod_lt _ (by omega)
  have inj:∀ x ∈ l,∀ y ∈ l,x≤y→a*x % p=a*y % p→x=y:=fun x hx y hy hxy e=>by
    have d:=Af e (Nat.mul_le_mul_left a hxy)
    rw [← Nat.mul_sub] at d
    rcases hp.mul d with g | g
    · exact absurd g ha
    · have hx1:=(hm x).1 hx
      have hy1:=(hm y).1 hy
      rcases Nat.eq_zero_or_pos (y - x) with z | z
      · omega
      · have:=Nat.le_of_dvd z g
        omega
  have hperm:(l.map (fun x=>a*x % p)).Perm l:=by
    apply Bj
    · have hnl:l.Nodup:=by
        apply List.Pairwise.map (R:=fun a b=>a≠b)
        · intro a b h;omega
        · exact List.nodup_range
      rw [List.Nodup,List.pairwise_map]
      refine List.Pairwise.imp_of_mem ?_ hnl
      intro x y hx hy hne e
      rcases Nat.le_total x y with g | g
      · exact hne (inj x hx y hy g e)
      · exact hne (inj y hy x hx g e.symm).symm
    · intro z hz
      obtain ⟨x,hx,rfl⟩:=List.mem_map.1 hz
      refine (hm _).2 ⟨?_,hlt x⟩
      rcases Nat.eq_zero_or_pos (a*x % p) with z | z
      · exfalso
        rcases hp.mul (Nat.dvd_of_mod_eq_zero z) with g | g
        · exact ha g
        · exact hnd x hx g
      · exact z
    · simp
  have e:=Gx (p:=p) (a:=a) l
  rw [D9 hperm,hl] at e
  have hq:=Gy hp hnd
  generalize wV l=P at e hq
  have ha0:0 < a:=by
    rcases Nat.eq_zero_or_pos a with z | z
    · exact absurd (z ▸ Nat.dvd_zero p) ha
    · exact z
  have h1:0 < a ^ (p - 1):=Nat.pow_pos ha0
  generalize a ^ (p - 1)=A at e h1
  have d:=Af e (Nat.le_mul_of_pos_left P h1)
  have d2:p ∣ (A - 1)*P:=by rw [Nat.sub_mul,Nat.one_mul];exact d
  rcases hp.mul d2 with g | g
  · obtain ⟨k,hk⟩:=g
    have:A=1+p*k:=by omega
    rw [this,Nat.add_mul_mod_self_left]
    exact Nat.mod_eq_of_lt (by omega)
  · exact absurd g hq
/-- the least divisor that is not 1 is prime -/
theorem least {n:Nat} (h:2≤n):∃ r,Pr r∧r ∣ n:=by
  induction n using Nat.strongRecOn with
  | _ n ih =>
    by_cases hp:∀ d,d ∣ n→d=1 ∨ d=n
    · exact ⟨n,⟨h,hp⟩,Nat.dvd_refl n⟩
    · have:∃ d,d ∣ n∧d≠1∧d≠n:=by
        apply Classical.byContradiction
        intro g
        apply hp
        intro d hd
        by_cases h1:d=1
        · exact Or.inl h1
        · by_cases h2:d=n
          · exact Or.inr h2
          · exact absurd ⟨d,hd,h1,h2⟩ g
      obtain ⟨d,hd,h1,h2⟩:=this
      have hle:=Nat.le_of_dvd (by omega) hd
      have h0:d≠0:=fun z=>by subst z;have:=Nat.eq_zero_of_zero_dvd hd;omega
      obtain ⟨r,hr,hrd⟩:=ih d (by omega) (by omega)
      exact ⟨r,hr,Nat.dvd_trans hrd hd⟩
/-- prime, if nothing up to a bound divides -/
theorem NC {p b:Nat} (h2:2≤p) (hb:p < b*b) (h:∀ d,2≤d→d < b→¬ d ∣ p):Pr p:=by
  refine ⟨h2,fun d hd=>?_⟩
  by_cases h1:d=1
  · exact Or.inl h1
  right
  obtain ⟨e,he⟩:=hd
  have hd0:d≠0:=fun z=>by subst z;omega
  by_cases hdb:d < b
  · exact absurd ⟨e,he⟩ (h d (by omega) hdb)
  · have heb:e < b:=by
      apply Classical.byContradiction
      intro g
      have:=Nat.mul_le_mul (show b≤d by omega) (show b≤e by omega)
      omega
    by_cases he1:e=1
    · subst he1;omega
    · have he0:e≠0:=fun z=>by subst z;omega
      exact absurd ⟨d,by rw [Nat.mul_comm];exact he⟩ (h e (by omega) heb)
/-- nothing from d on, n numbers, divides p -/
def Da (p:Nat):Nat→Nat→Bool
  | 0,_=>true
  | n+1,d=>(p % d != 0) && Da p n (d+1)
theorem F1 {p:Nat}:∀ {n d},Da p n d=true→∀ e,d≤e→e < d+n→¬ e ∣ p:=by
  intro n
  induction n with
  | zero=>intro d _ e h1 h2;omega
  | succ n ih =>
    intro d h e h1 h2 hd
    simp only [Da,Bool.and_eq_true,bne_iff_ne] at h
    by_cases g:e=d
    · subst g;exact h.1 (Nat.mod_eq_zero_of_dvd hd)
    · exact ih h.2 e (by omega) (by omega) hd
theorem lE {p n:Nat} (h2:2≤p) (hb:p < (n+2)*(n+2)) (h:Da p n 2=true):Pr p :=
  NC (b:=n+2) h2 hb fun d h3 h4=>F1 h d h3 (by omega)
theorem ord {r b m:Nat}:∀ {n},b ^ m % r=1→b ^ n % r=1→b ^ (n % m) % r=1:=by
  intro n hm hn
  have:n=m*(n / m)+n % m:=(Nat.div_add_mod n m).symm
  rw [this,Nat.pow_add,Nat.pow_mul,Nat.mul_mod,Nat.pow_mod,hm] at hn
  by_cases hr:r=0
  · subst hr;simp at *;exact hn
  by_cases hr1:r=1
  · subst hr1;omega
  · rw [Nat.one_pow,Nat.mod_eq_of_lt (show 1 < r by omega),Nat.one_mul,Nat.mod_mod] at hn
    exact hn
theorem JA {r b:Nat}:∀ m n,b ^ m % r=1→b ^ n % r=1→b ^ (Nat.gcd m n) % r=1:=by
  intro m n
  induction m,n using Nat.gcd.induction with
  | H0 n=>intro _ h;simpa using h
  | H1 m n hm ih=>intro h1 h2;rw [Nat.gcd_rec];exact ih (ord h1 h2) h1
/-- Pocklington: a prime divisor is 1 modulo q -/
theorem Pm {p r q b:Nat} (hr:Pr r) (hd:r ∣ p) (hq:Pr q) (h1:b ^ q % p=1) (h2:Nat.gcd (b - 1) p=1) (hp:2≤p) (hb:0 < b):q ∣ r - 1:=by
  have hr2:=hr.1
  have e1:b ^ q % r=1:=by
    rw [← Nat.mod_mod_of_dvd _ hd,h1];exact Nat.mod_eq_of_lt (by omega)
  have hnb:¬ r ∣ b:=fun g=>by
    have:b ^ q % r=0:=Nat.mod_eq_zero_of_dvd (by
      have hq0:q≠0:=by have:=hq.1;omega
      exact Nat.dvd_trans g (Nat.dvd_of_mod_eq_zero (by
        obtain ⟨k,rfl⟩:=Nat.exists_eq_succ_of_ne_zero hq0
        rw [Nat.pow_succ];exact Nat.mul_mod_left _ _)))
    omega
  have e2:=Fc hr hnb
  have e3:=JA q (r - 1) e1 e2
  rcases hq.2 _ (Nat.gcd_dvd_left q (r - 1)) with g | g
  · exfalso
    rw [g,Nat.pow_one] at e3
    have:r ∣ b - 1:=Af (x:=1) (y:=b) (by rw [e3];exact Nat.mod_eq_of_lt (by omega)) hb
    have:=Nat.dvd_gcd this hd
    rw [h2] at this
    have:=Nat.le_of_dvd (by decide) this
    omega
  · rw [← g];exact Nat.gcd_dvd_right _ _
/-- powers modulo p by squaring; k squarings at most -/
def pm (p:Nat):Nat→Nat→Nat→Nat→Nat
  | 0,_,_,o=>o
  | k+1,a,n,o=>if n=0 then o else pm p k (a*a % p) (n / 2) (if n % 2=1 then o*a % p else o)
theorem KF {p:Nat}:∀ {k a n o},n < 2 ^ k→o < p→pm p k a n o=o*a ^ n % p:=by
  intro k
  induction k with
  | zero => intro a n o h ho; have : n = 0 := by simpa using h
            subst this;simp [pm,Nat.mod_eq_of_lt ho]
  | succ k ih =>
    intro a n o h ho
    simp only [pm]
    split
    · next z=>subst z;simp [Nat.mod_eq_of_lt ho]
    · have hn:n / 2 < 2 ^ k:=by rw [Nat.pow_succ] at h;omega
      have hp0:0 < p:=by omega
      by_cases h1:n % 2=1
      · rw [if_pos h1,ih hn (Nat.mod_lt _ hp0)]
        have e:a ^ n=a*(a*a) ^ (n / 2):=by
          have:n=1+2*(n / 2):=by omega
          rw [this,Nat.pow_add,Nat.pow_mul,Nat.pow_one,Nat.pow_two]
          congr 3
        rw [e,Nat.mul_mod,Nat.mod_mod,Nat.pow_mod,Nat.mod_mod,← Nat.pow_mod,← Nat.mul_mod,Nat.mul_assoc]
      · rw [if_neg h1,ih hn ho]
        have e:a ^ n=(a*a) ^ (n / 2):=by
          have:n=2*(n / 2):=by omega
          rw [this,Nat.pow_mul,Nat.pow_two]
          congr 2
        rw [e,Nat.mul_mod,Nat.pow_mod,Nat.mod_mod,← Nat.pow_mod,← Nat.mul_mod]
theorem Pn:Pr 31:=lE (n:=4) (by decide) (by decide) (by decide)
theorem Nx:Pr 127:=lE (n:=10) (by decide) (by decide) (by decide)
theorem L6:Pr 8191:=lE (n:=89) (by decide) (by decide) (by decide +kernel)
theorem Gs:Pr 131071:=lE (n:=361) (by decide) (by decide) (by decide +kernel)
theorem Gu:Pr 524287:=lE (n:=723) (by decide) (by decide) (by decide +kernel)
theorem z7:Pr 2147483647:=lE (n:=46339) (by decide) (by decide) (by decide +kernel)
theorem Po:Pr 61:=lE (n:=6) (by decide) (by decide) (by decide)
theorem Ny:Pr 151:=lE (n:=11) (by decide) (by decide) (by decide)
theorem NA:Pr 331:=lE (n:=17) (by decide) (by decide) (by decide)
theorem L4:Pr 1321:=lE (n:=35) (by decide) (by decide) (by decide +kernel)
def Au:Nat:=2305843009213693951
theorem z6 {r q:Nat} (hr:Pr r) (hd:r ∣ Au) (hq:Pr q) (h1:pm Au 62 37 (Au - 1) 1=1) (hm:(Au - 1) / q*q=Au - 1) (h2:Nat.gcd (pm Au 62 37 ((Au - 1) / q) 1 - 1) Au=1) (h3:0 < pm Au 62 37 ((Au - 1) / q) 1) (h4:(Au - 1) / q < 2 ^ 62):q ∣ r - 1:=by
  have e1:37 ^ (Au - 1) % Au=1:=by rw [KF (by decide) (by decide),Nat.one_mul] at h1;exact h1
  refine Pm (b:=pm Au 62 37 ((Au - 1) / q) 1) hr hd hq ?_ h2 (by decide) h3
  rw [KF h4 (by decide),Nat.one_mul,Nat.pow_mod,Nat.mod_mod,← Nat.pow_mod,← Nat.pow_mul,hm]
  exact e1
theorem Kj {r:Nat} (hr:Pr r) (hd:r ∣ Au):4027518961 < r:=by
  have a1:=z6 hr hd Po (by decide +kernel) (by decide +kernel) (by decide +kernel) (by decide +kernel) (by decide +kernel)
  have a2:=z6 hr hd Ny (by decide +kernel) (by decide +kernel) (by decide +kernel) (by decide +kernel) (by decide +kernel)
  have a3:=z6 hr hd NA (by decide +kernel) (by decide +kernel) (by decide +kernel) (by decide +kernel) (by decide +kernel)
  have a4:=z6 hr hd L4 (by decide +kernel) (by decide +kernel) (by decide +kernel) (by decide +kernel) (by decide +kernel)
  have b1:=Nat.Coprime.mul_dvd_of_dvd_of_dvd (show Nat.Coprime 61 151 by decide) a1 a2
  have b2:=Nat.Coprime.mul_dvd_of_dvd_of_dvd (show Nat.Coprime (61*151) 331 by decide) b1 a3
  have b3:=Nat.Coprime.mul_dvd_of_dvd_of_dvd (show Nat.Coprime (61*151*331) 1321 by decide) b2 a4
  have h2:=hr.1
  clear a1 a2 a3 a4 b1 b2 hd hr
  have h3:0 < r - 1:=by omega
  have h4:=Nat.le_of_dvd h3 b3
  clear b3
  omega
theorem NB:Pr Au:=by
  refine ⟨by decide,fun d hd=>?_⟩
  by_cases h1:d=1
  · exact Or.inl h1
  right
  obtain ⟨e,he⟩:=hd
  have hM:Au=2305843009213693951:=rfl
  have hd0:d≠0:=fun z=>by subst z;omega
  have he0:e≠0:=fun z=>by subst z;omega
  by_cases he1:e=1
  · subst he1;omega
  obtain ⟨r,hr,hrd⟩:=least (n:=d) (by omega)
  obtain ⟨t,ht,htd⟩:=least (n:=e) (by omega)
  have g1:=Kj hr (Nat.dvd_trans hrd ⟨e,he⟩)
  have g2:=Kj ht (Nat.dvd_trans htd ⟨d,by rw [Nat.mul_comm];exact he⟩)
  have g3:=Nat.le_of_dvd (by omega) hrd
  have g4:=Nat.le_of_dvd (by omega) htd
  have:=Nat.mul_le_mul (show 4027518961≤d by omega) (show 4027518961≤e by omega)
  omega
theorem fX.pr {p:Nat} (h:fX p):Pr p:=by
  rcases h with rfl | rfl | rfl | rfl | rfl | rfl | rfl
  · exact Pn
  · exact Nx
  · exact L6
  · exact Gs
  · exact Gu
  · exact z7
  · exact NB
theorem fX.inv {p a:Nat} (h:fX p) (ha:a % p≠0):a*JF p a (p - 2) % p=1:=by
  have h1:=h.lt
  have:=Fc h.pr (fun d=>ha (Nat.mod_eq_zero_of_dvd d))
  unfold JF
  rw [Nat.mul_mod,Nat.mod_mod,← Nat.mul_mod,← Nat.pow_succ']
  rw [show (p - 2).succ=p - 1 by omega];exact this
theorem fX.mul0 {p a b:Nat} (h:fX p) (e:a*b % p=0):a % p=0 ∨ b % p=0:=by
  rcases h.pr.mul (Nat.dvd_of_mod_eq_zero e) with g | g
  · exact Or.inl (Nat.mod_eq_zero_of_dvd g)
  · exact Or.inr (Nat.mod_eq_zero_of_dvd g)
end Sp

/- Polynomials as lists over a commutative ring without zero divisors: evaluation, product, root counting. Plain Lean, no program. -/
set_option linter.unusedVariables false
namespace Sp
open Lean.Grind
section
variable {R:Type} [CommRing R]
def cc:List R→R→R
  | [],_=>0
  | a :: t,x=>a+x*cc t x
/-- the quotient by x - c, of the tail -/
def sd (c:R):List R→List R
  | []=>[]
  | a :: t=>cc (a :: t) c :: sd c t
theorem Mg (c:R) (f:List R):(sd c f).length=f.length:=by
  induction f with
  | nil=>rfl
  | cons a t ih=>simp [sd,ih]
theorem NN (c x a:R) (t:List R):cc (a :: t) x - cc (a :: t) c=(x - c)*cc (sd c t) x:=by
  induction t generalizing a with
  | nil=>simp only [cc,sd];grind
  | cons b t ih =>
    have:=ih b
    simp only [cc,sd] at *
    grind
theorem JR (c:R) (f:List R) (h:∀ y ∈ sd c f,y=0):cc f c=0∧∀ y ∈ f,y=0:=by
  induction f with
  | nil=>exact ⟨rfl,by simp⟩
  | cons a t ih =>
    simp only [sd,List.mem_cons,forall_eq_or_imp] at h
    obtain ⟨i1,i2⟩:=ih h.2
    refine ⟨h.1,?_⟩
    have:a=0:=by
      have:=h.1
      simp only [cc] at this
      rw [i1] at this
      grind
    simp only [List.mem_cons,forall_eq_or_imp]
    exact ⟨this,i2⟩
/-- as many roots as coefficients: zero -/
theorem roots (nz:∀ a b:R,a*b=0→a=0 ∨ b=0):∀ (f xs:List R),xs.Nodup→f.length≤xs.length→(∀ x ∈ xs,cc f x=0)→∀ y ∈ f,y=0:=by
  intro f xs
  induction xs generalizing f with
  | nil=>intro _ h _;have:f=[]:=List.eq_nil_of_length_eq_zero (by simpa using h);subst this;simp
  | cons c xs ih =>
    intro hn hl h
    cases f with
    | nil=>simp
    | cons a t =>
      rw [List.nodup_cons] at hn
      have hc:cc (a :: t) c=0:=h c (by simp)
      have:=ih (sd c t) hn.2 (by rw [Mg];simpa using hl) (fun x hx=>by
        have e:=NN c x a t
        rw [h x (by simp [hx]),hc] at e
        have e2:(x - c)*cc (sd c t) x=0:=by grind
        rcases nz _ _ e2 with g | g
        · exfalso;apply hn.1
          have:x=c:=by grind
          exact this ▸ hx
        · exact g)
      obtain ⟨i1,i2⟩:=JR c t this
      have ha:a=0:=by
        simp only [cc] at hc
        rw [i1] at hc
        grind
      simp only [List.mem_cons,forall_eq_or_imp]
      exact ⟨ha,i2⟩
def cf (f:List R) (i:Nat):R:=f.getD i 0
def nN:List R→List R→List R
  | [],g=>g
  | f,[]=>f
  | a :: f,b :: g=>(a+b) :: nN f g
def wn (k:R) (f:List R):List R:=f.map (k*·)
def wh (f g:List R):List R:=nN f (wn (-1) g)
def mB:List R→List R→List R
  | [],_=>[]
  | a :: f,g=>nN (wn a g) (0 :: mB f g)
theorem tr (f g:List R) (x:R):cc (nN f g) x=cc f x+cc g x:=by
  induction f,g using nN.induct with
  | case1 g=>simp only [nN,cc];grind
  | case2 f h=>cases f with
    | nil=>simp only [nN,cc];grind
    | cons a f=>simp only [nN,cc];grind
  | case3 a f b g ih=>simp only [nN,cc,ih];grind
theorem rm (k:R) (f:List R) (x:R):cc (wn k f) x=k*cc f x:=by
  unfold wn
  induction f with
  | nil=>simp only [List.map,cc];grind
  | cons a f ih=>simp only [List.map,cc,ih];grind
theorem pQ (f g:List R) (x:R):cc (wh f g) x=cc f x - cc g x:=by
  unfold wh;rw [tr,rm];grind
theorem pO (f g:List R) (x:R):cc (mB f g) x=cc f x*cc g x:=by
  induction f with
  | nil=>simp only [mB,cc];grind
  | cons a f ih=>simp only [mB,tr,rm,cc,ih];grind
theorem tE (f g:List R):(nN f g).length=max f.length g.length:=by
  induction f,g using nN.induct with
  | case1 g=>simp [nN]
  | case2 f h=>cases f <;> simp [nN]
  | case3 a f b g ih=>simp [nN,ih]
theorem tQ (k:R) (f:List R):(wn k f).length=f.length:=by simp [wn]
theorem vo (f g:List R):(wh f g).length=max f.length g.length:=by rw [wh,tE,tQ]
theorem Bo (f g:List R):(mB f g).length≤f.length+g.length:=by
  induction f with
  | nil=>simp [mB]
  | cons a f ih=>simp only [mB,tE,tQ,List.length_cons];omega
theorem ru (f g:List R) (h:1≤g.length):(mB f g).length≤f.length+g.length - 1:=by
  induction f with
  | nil=>simp [mB]
  | cons a f ih=>simp only [mB,tE,tQ,List.length_cons];omega
theorem ti (i:Nat):cf ([]:List R) i=0:=by simp [cf]
theorem qo (a:R) (f:List R):cf (a :: f) 0=a:=by simp [cf]
theorem kT (a:R) (f:List R) (i:Nat):cf (a :: f) (i+1)=cf f i:=by simp [cf]
theorem rV (f g:List R) (i:Nat):cf (nN f g) i=cf f i+cf g i:=by
  induction f,g using nN.induct generalizing i with
  | case1 g=>simp only [nN,ti];grind
  | case2 f h=>cases f with
    | nil=>simp only [nN,ti];grind
    | cons a f=>simp only [nN,ti];grind
  | case3 a f b g ih=>cases i with
    | zero=>simp only [nN,qo]
    | succ i=>simp only [nN,kT,ih]
theorem qn (k:R) (f:List R) (i:Nat):cf (wn k f) i=k*cf f i:=by
  unfold wn
  induction f generalizing i with
  | nil=>simp only [List.map,ti];grind
  | cons a f ih=>cases i with
    | zero=>simp only [List.map,qo]
    | succ i=>simp only [List.map,kT,ih]
theorem va (f g:List R) (i:Nat):cf (wh f g) i=cf f i - cf g i:=by
  unfold wh;rw [rV,qn];grind
theorem wy {f:List R} {i:Nat} (h:f.length≤i):cf f i=0:=by simp [cf,h]
theorem KV {f:List R} (h:∀ y ∈ f,y=0) (i:Nat):cf f i=0:=by
  by_cases g:i < f.length
  · unfold cf;rw [List.getD_eq_getElem?_getD,List.getElem?_eq_getElem g];exact h _ (List.getElem_mem g)
  · exact wy (by omega)
/-- the coefficients above, and the top one, of a product -/
theorem AJ (f g:List R) (a b:Nat) (hf:∀ i,a < i→cf f i=0) (hg:∀ j,b < j→cf g j=0):cf (mB f g) (a+b)=cf f a*cf g b∧∀ k,a+b < k→cf (mB f g) k=0:=by
  induction f generalizing a with
  | nil=>simp only [mB,ti];exact ⟨by grind,fun _ _=>trivial⟩
  | cons c f ih =>
    cases a with
    | zero =>
      have hf0:∀ y ∈ f,y=0:=by
        intro y hy
        obtain ⟨i,hi,rfl⟩:=List.getElem_of_mem hy
        have:=hf (i+1) (by omega)
        rw [kT] at this
        unfold cf at this
        rwa [List.getD_eq_getElem?_getD,List.getElem?_eq_getElem hi] at this
      have hz:∀ k,cf (mB f g) k=0:=by
        clear ih hf
        induction f with
        | nil=>intro k;simp only [mB,ti]
        | cons d f ih2 =>
          intro k
          simp only [List.mem_cons,forall_eq_or_imp] at hf0
          simp only [mB,rV,qn,hf0.1]
          cases k with
          | zero=>rw [qo];grind
          | succ k=>rw [kT,ih2 hf0.2];grind
      refine ⟨?_,fun k hk=>?_⟩
      · simp only [mB,rV,qn,qo,Nat.zero_add]
        cases b with
        | zero=>rw [qo];grind
        | succ b=>rw [kT,hz];grind
      · simp only [mB,rV,qn]
        rw [hg k (by omega)]
        cases k with
        | zero=>omega
        | succ k=>rw [kT,hz];grind
    | succ a =>
      obtain ⟨i1,i2⟩:=ih a (fun i hi=>by have:=hf (i+1) (by omega);rwa [kT] at this)
      refine ⟨?_,fun k hk=>?_⟩
      · simp only [mB,rV,qn,kT]
        rw [hg (a+1+b) (by omega),show a+1+b=(a+b)+1 by omega,kT,i1];grind
      · simp only [mB,rV,qn]
        rw [hg k (by omega)]
        cases k with
        | zero=>omega
        | succ k=>rw [kT,i2 k (by omega)];grind
/-- equal at enough places: equal coefficients -/
theorem rk (nz:∀ a b:R,a*b=0→a=0 ∨ b=0) {f g xs:List R} (hn:xs.Nodup) (hf:f.length≤xs.length) (hg:g.length≤xs.length) (h:∀ x ∈ xs,cc f x=cc g x) (i:Nat):cf f i=cf g i:=by
  have:=roots nz (wh f g) xs hn (by rw [vo];omega) (fun x hx=>by rw [pQ,h x hx];grind)
  have:=KV this i
  rw [va] at this
  grind
theorem Mn {f:List R} (h:∃ i,cf f i≠0):∃ b,cf f b≠0∧∀ j,b < j→cf f j=0:=by
  obtain ⟨i,hi⟩:=h
  have key:∀ n,(∀ j,n≤j→cf f j=0)→i < n→∃ b,cf f b≠0∧∀ j,b < j→cf f j=0:=by
    intro n
    induction n with
    | zero=>intro _ h;omega
    | succ n ih =>
      intro hz hin
      by_cases g:cf f n=0
      · have:i≠n:=fun e=>hi (e ▸ g)
        exact ih (fun j hj=>by by_cases e:j=n;exact e ▸ g;exact hz j (by omega)) (by omega)
      · exact ⟨n,g,fun j hj=>hz j (by omega)⟩
  have hlt:i < f.length:=by
    apply Classical.byContradiction
    intro g
    exact hi (wy (by omega))
  exact key f.length (fun j hj=>wy hj) hlt
/-- division is unique: e times d with e monic of degree w has no fewer coefficients than w, unless d is zero -/
theorem E7 {e d rest:List R} {w:Nat} (h1:cf e w=1) (he:∀ i,w < i→cf e i=0) (hr:rest.length≤w) (h:∀ i,cf (mB e d) i=cf rest i):∀ i,cf d i=0:=by
  intro i
  apply Classical.byContradiction
  intro g
  obtain ⟨b,hb,hz⟩:=Mn ⟨i,g⟩
  have:=(AJ e d w b he hz).1
  rw [h,wy (by omega),h1] at this
  apply hb
  grind
theorem rW {f:List R} (h:∀ i,cf f i=0) (x:R):cc f x=0:=by
  induction f with
  | nil=>rfl
  | cons a f ih =>
    have h0:=h 0
    rw [qo] at h0
    simp only [cc,h0,ih (fun i=>by have:=h (i+1);rwa [kT] at this)];grind
theorem kU {f g:List R} (h:∀ i,cf f i=cf g i) (x:R):cc f x=cc g x:=by
  have:=rW (f:=wh f g) (fun i=>by rw [va,h i];grind) x
  rw [pQ] at this
  grind
theorem uL (f g:List R) (x:R):cc (f++g) x=cc f x+x ^ f.length*cc g x:=by
  induction f with
  | nil=>simp only [List.nil_append,cc,List.length_nil];grind
  | cons a f ih=>simp only [List.cons_append,cc,ih,List.length_cons];grind
/-- Berlekamp and Welch: what any solution says -/
theorem bw (nz:∀ a b:R,a*b=0→a=0 ∨ b=0) {q e f rest f0 good all:List R} {deg w:Nat}
    (hgood:good.Nodup) (hall:all.Nodup) (hq:q.length≤deg+w+1) (h0:f0.length≤deg+1)
    (h1:cf e w=1) (he:e.length=w+1) (hr:rest.length≤w)
    (hng:deg+w+1≤good.length) (hna:deg+w+1≤all.length) (hf:f.length+w≤all.length) (hna2:deg+w+2≤all.length)
    (hk:∀ x ∈ good,cc q x=cc f0 x*cc e x) (hd:∀ x,cc q x=cc e x*cc f x+cc rest x) :
    (∀ i,cf f i=cf f0 i)∧∀ i,cf rest i=0:=by
  have e1:∀ i,cf q i=cf (mB f0 e) i:=rk nz hgood (by omega) (by have:=ru f0 e (by omega);omega) (fun x hx=>by rw [pO];exact hk x hx)
  have e2:∀ x,cc q x=cc f0 x*cc e x:=fun x=>by rw [kU e1 x,pO]
  have e3:∀ i,cf (mB e (wh f0 f)) i=cf rest i:=rk nz hall (by
      have:=ru e (wh f0 f)
      rw [vo] at this
      have h2:=Bo e (wh f0 f)
      rw [vo] at h2
      by_cases z:1≤max f0.length f.length
      · have:=this z;omega
      · omega) (by omega) (fun x _=>by
      have a1:=hd x
      have a2:=e2 x
      rw [pO,pQ]
      grind)
  have e4:=E7 h1 (fun i hi=>wy (by omega)) hr e3
  refine ⟨fun i=>by have:=e4 i;rw [va] at this;grind,fun i=>?_⟩
  have e5:∀ x,cc rest x=0:=fun x=>by
    have a1:=hd x
    have a2:=e2 x
    have a3:cc f0 x - cc f x=0:=by rw [← pQ];exact rW e4 x
    grind
  have:=rk nz hall (f:=rest) (g:=[]) (by omega) (by simp) (fun x _=>by rw [e5];rfl) i
  rw [this,ti]
end
end Sp

/- Elimination of Gauss and Jordan over a commutative ring: what it keeps. Plain Lean, no program. -/
set_option linter.unusedVariables false
namespace Sp
open Lean.Grind
section
variable {R:Type} [CommRing R]
def sm:Nat→(Nat→R)→R
  | 0,_=>0
  | n+1,f=>sm n f+f n
theorem bY {n:Nat} {f g:Nat→R} (h:∀ j,j < n→f j=g j):sm n f=sm n g:=by
  induction n with
  | zero=>rfl
  | succ n ih=>simp only [sm];rw [ih (fun j hj=>h j (by omega)),h n (by omega)]
theorem sr {n:Nat} {f:Nat→R} (h:∀ j,j < n→f j=0):sm n f=0:=by
  induction n with
  | zero=>rfl
  | succ n ih=>simp only [sm];rw [ih (fun j hj=>h j (by omega)),h n (by omega)];grind
theorem GR {n:Nat} (f g:Nat→R):sm n (fun j=>f j+g j)=sm n f+sm n g:=by
  induction n with
  | zero=>simp only [sm];grind
  | succ n ih=>simp only [sm,ih];grind
theorem oT {n:Nat} (k:R) (f:Nat→R):sm n (fun j=>k*f j)=k*sm n f:=by
  induction n with
  | zero=>simp only [sm];grind
  | succ n ih=>simp only [sm,ih];grind
/-- one place more -/
theorem Cx {n c:Nat} (hc:c < n) (f g:Nat→R) (x:R) (hx:g c=x+f c) (h:∀ j,j < n→j≠c→g j=f j):sm n g=sm n f+x:=by
  induction n with
  | zero=>omega
  | succ n ih =>
    simp only [sm]
    by_cases e:c=n
    · subst e
      rw [bY (f:=g) (g:=f) (fun j hj=>h j (by omega) (by omega)),hx];grind
    · rw [ih (by omega) (fun j hj hne=>h j (by omega) hne),h n (by omega) (fun z=>e z.symm)];grind
def dot (n:Nat) (row v:Nat→R):R:=sm n (fun j=>row j*v j)
theorem HP {n:Nat} (a b v:Nat→R) (k:R):dot n (fun j=>a j+k*b j) v=dot n a v+k*dot n b v:=by
  unfold dot
  rw [← oT,← GR]
  exact bY fun j _=>by grind
theorem DK {n:Nat} (a v:Nat→R) (k:R):dot n (fun j=>k*a j) v=k*dot n a v:=by
  unfold dot
  rw [← oT]
  exact bY fun j _=>by grind
theorem pp {n:Nat} {a b v:Nat→R} (h:∀ j,j < n→a j=b j):dot n a v=dot n b v:=bY fun j hj=>by rw [h j hj]
def Kg (h n:Nat) (M:Nat→Nat→R) (v:Nat→R):Prop:=∀ i,i < h→dot n (M i) v=M i n
structure vG (h n:Nat) (M0 M:Nat→Nat→R) (k:Nat) (piv:Nat→Nat) (c:Nat):Prop where
  sol:∀ v,Kg h n M0 v ↔ Kg h n M v
  len:k≤h
  lt:∀ r,r < k→piv r < c
  cn:c≤n
  unit:∀ r,r < k→∀ i,i < h→M i (piv r)=if i=r then 1 else 0
  low:∀ i,k≤i→i < h→∀ j,j < c→M i j=0
variable {h n k c:Nat} {M0 M M':Nat→Nat→R} {piv:Nat→Nat}
theorem vG.start:vG h n M0 M0 0 piv 0:=⟨fun _=>Iff.rfl,by omega,by omega,by omega,by omega,by omega⟩
theorem vG.congr (e:∀ i,i < h→∀ j,j≤n→M' i j=M i j) (r:vG h n M0 M k piv c):vG h n M0 M' k piv c:=by
  refine ⟨fun v=>(r.sol v).trans ?_,r.len,r.lt,r.cn,fun s hs i hi=>?_,fun i h1 h2 j hj=>?_⟩
  · constructor <;> intro g i hi
    · rw [pp (b:=M i) (fun j hj=>e i hi j (by omega)),e i hi n (by omega)];exact g i hi
    · rw [← e i hi n (by omega),← pp (a:=M' i) (fun j hj=>e i hi j (by omega))];exact g i hi
  · rw [e i hi _ (by have:=r.lt s hs;have:=r.cn;omega)];exact r.unit s hs i hi
  · rw [e i h2 _ (by have:=r.cn;omega)];exact r.low i h1 h2 j hj
theorem vG.skip (r:vG h n M0 M k piv c) (hc:c < n) (z:∀ i,k≤i→i < h→M i c=0):vG h n M0 M k piv (c+1) :=
  ⟨r.sol,r.len,fun s hs=>Nat.lt_succ_of_lt (r.lt s hs),hc,r.unit,fun i h1 h2 j hj=>by
    by_cases e:j=c
    · subst e;exact z i h1 h2
    · exact r.low i h1 h2 j (by omega)⟩
theorem vG.pivot (r:vG h n M0 M k piv c) (hc:c < n) (one:(1:R)≠0) {at_:Nat} (a1:k≤at_) (a2:at_ < h) {u:R} (hu:u*M at_ c=1) (hp:piv k=c)
    (hr:∀ j,j≤n→M' k j=u*M at_ j)
    (ho:∀ i,i < h→i≠k→∀ j,j≤n→M' i j=(if i=at_ then M k j else M i j) - (if i=at_ then M k c else M i c)*M' k j):vG h n M0 M' (k+1) piv (c+1):=by
  have kh:k < h:=by omega
  let S:Nat→Nat→R:=fun i=>if i=at_ then M k else if i=k then M at_ else M i
  have hS:∀ i,i < h→i≠k→∀ j,j≤n→M' i j=S i j - S i c*M' k j:=fun i h1 h2 j h3=>by
    rw [ho i h1 h2 j h3]
    by_cases e:i=at_
    · simp [S,e]
    · simp [S,e,h2]
  have hSk:∀ j,j≤n→M' k j=u*S k j:=fun j h3=>by
    rw [hr j h3]
    by_cases e:k=at_
    · simp [S,e]
    · simp [S,e]
  have hSc:u*S k c=1:=by
    by_cases e:k=at_
    · subst e;simpa [S] using hu
    · simpa [S,e] using hu
  have solS:∀ v,Kg h n M v ↔ Kg h n S v:=fun v=>by
    constructor <;> intro g i hi
    · by_cases e:i=at_
      · have:=g k kh;simpa [S,e] using this
      · by_cases e2:i=k
        · have:=g at_ a2
          subst e2;simpa [S,e] using this
        · have:=g i hi;simpa [S,e,e2] using this
    · by_cases e:i=at_
      · subst e
        by_cases e2:k=i
        · subst e2;have:=g k kh;simpa [S] using this
        · have:=g k kh;simpa [S,e2] using this
      · by_cases e2:i=k
        · subst e2;have:=g at_ a2;simpa [S] using this
        · have:=g i hi;simpa [S,e,e2] using this
  have lowS:∀ i,k≤i→i < h→∀ j,j < c→S i j=0:=fun i h1 h2 j hj=>by
    by_cases e:i=at_
    · simp only [S,if_pos e];exact r.low k (Nat.le_refl k) kh j hj
    · by_cases e2:i=k
      · simp only [S,if_neg e,if_pos e2];exact r.low at_ a1 a2 j hj
      · simp only [S,if_neg e,if_neg e2];exact r.low i h1 h2 j hj
  have unitS:∀ s,s < k→∀ i,i < h→S i (piv s)=if i=s then 1 else 0:=fun s hs i hi=>by
    by_cases e:i=at_
    · simp only [S,if_pos e];rw [r.unit s hs k kh,if_neg (by omega),if_neg (by omega)]
    · by_cases e2:i=k
      · simp only [S,if_neg e,if_pos e2];rw [r.unit s hs at_ a2,if_neg (by omega),if_neg (by omega)]
      · simp only [S,if_neg e,if_neg e2];exact r.unit s hs i hi
  have dk:∀ v,dot n (M' k) v=u*dot n (S k) v:=fun v=>by
    rw [pp (b:=fun j=>u*S k j) (fun j hj=>hSk j (by omega)),DK]
  have di:∀ v i,i < h→i≠k→dot n (M' i) v=dot n (S i) v - S i c*dot n (M' k) v:=fun v i h1 h2=>by
    rw [pp (b:=fun j=>S i j+(-(S i c))*M' k j) (fun j hj=>by rw [hS i h1 h2 j (by omega)];grind),HP];grind
  refine ⟨fun v=>((r.sol v).trans (solS v)).trans ?_,by omega,?_,by omega,?_,?_⟩
  · constructor
    · intro g i hi
      have g0:=g k kh
      by_cases e:i=k
      · subst e;rw [dk,hSk n (by omega),g0]
      · rw [di v i hi e,hS i hi e n (by omega),dk,g0,g i hi,hSk n (by omega)]
    · intro g
      have g0:=g k kh
      rw [dk,hSk n (by omega)] at g0
      have g1:dot n (S k) v=S k n:=by grind
      intro i hi
      by_cases e:i=k
      · subst e;exact g1
      · have g2:=g i hi
        rw [di v i hi e,hS i hi e n (by omega),g k kh] at g2
        grind
  · intro s hs
    by_cases e:s=k
    · subst e;omega
    · have:=r.lt s (by omega);omega
  · intro s hs i hi
    by_cases e:s=k
    · subst e
      rw [hp]
      by_cases e2:i=s
      · subst e2;rw [if_pos rfl,hSk c (by omega)];exact hSc
      · rw [if_neg e2,hS i hi e2 c (by omega),hSk c (by omega),hSc];grind
    · have hs2:s < k:=by omega
      have hl:=r.lt s hs2
      have hz:M' k (piv s)=0:=by
        rw [hSk _ (by omega),unitS s hs2 k kh,if_neg (by omega)];grind
      by_cases e2:i=k
      · subst e2;rw [if_neg (by omega)];exact hz
      · rw [hS i hi e2 _ (by omega),hz,unitS s hs2 i hi]
        split <;> grind
  · intro i h1 h2 j hj
    have e:i≠k:=by omega
    by_cases e3:j=c
    · subst e3
      rw [hS i h2 e j (by omega),hSk j (by omega),hSc];grind
    · rw [hS i h2 e j (by omega),hSk j (by omega),lowS i (by omega) h2 j (by omega),lowS k (by omega) kh j (by omega)];grind
/-- the solution that is read off: after s pivots -/
def Read (n:Nat) (M:Nat→Nat→R) (piv:Nat→Nat) (s:Nat) (out:Nat→R):Prop :=
  (∀ j,j < n→(∀ r,r < s→piv r≠j)→out j=0)∧∀ r,r < s→out (piv r)=M r n
theorem vG.distinct (r:vG h n M0 M k piv c) (one:(1:R)≠0) {a b:Nat} (ha:a < k) (hb:b < k) (e:piv a=piv b):a=b:=by
  apply Classical.byContradiction
  intro g
  have h1:=r.unit a ha a (by have:=r.len;omega)
  have h2:=r.unit b hb a (by have:=r.len;omega)
  rw [if_pos rfl] at h1
  rw [if_neg g,← e,h1] at h2
  exact one h2
theorem vG.read_sum (r:vG h n M0 M k piv c) (one:(1:R)≠0) (i:Nat) (hi:i < h):∀ (s:Nat) (out:Nat→R),s≤k→Read n M piv s out→dot n (M i) out=if i < s then M i n else 0:=by
  intro s
  induction s with
  | zero =>
    intro out _ hr
    rw [if_neg (by omega)]
    exact sr fun j hj=>by rw [hr.1 j hj (by omega)];grind
  | succ s ih =>
    intro out hs hr
    have hps:piv s < n:=by have:=r.lt s (by omega);have:=r.cn;omega
    let o2:Nat→R:=fun j=>if j=piv s then 0 else out j
    have hr2:Read n M piv s o2:=by
      refine ⟨fun j hj hn=>?_,fun t ht=>?_⟩
      · by_cases e:j=piv s
        · simp [o2,e]
        · simp only [o2,if_neg e]
          refine hr.1 j hj fun t ht=>?_
          by_cases e2:t=s
          · subst e2;exact fun z=>e z.symm
          · exact hn t (by omega)
      · have:piv t≠piv s:=fun z=>by have:=r.distinct one (by omega) (by omega) z;omega
        simp only [o2,if_neg this]
        exact hr.2 t (by omega)
    have:=ih o2 (by omega) hr2
    unfold dot at this ⊢
    rw [Cx hps (fun j=>M i j*o2 j) (fun j=>M i j*out j) (M i (piv s)*M s n) (by simp only [o2,if_pos];rw [hr.2 s (by omega)];grind) (fun j hj hne=>by simp only [o2,if_neg hne]),this,r.unit s (by omega) i hi]
    by_cases e:i=s
    · subst e;rw [if_neg (by omega),if_pos rfl,if_pos (by omega)];grind
    · rw [if_neg e]
      by_cases e2:i < s
      · rw [if_pos e2,if_pos (by omega)];grind
      · rw [if_neg e2,if_neg (by omega)];grind
/-- the end: solved -/
theorem vG.solved (r:vG h n M0 M k piv n) (one:(1:R)≠0) {out:Nat→R} (hr:Read n M piv k out) (z:∀ i,k≤i→i < h→M i n=0):Kg h n M0 out:=by
  rw [r.sol]
  intro i hi
  rw [r.read_sum one i hi k out (Nat.le_refl k) hr]
  split
  · rfl
  · next g=>exact (z i (by omega) hi).symm
/-- the end: where there is a solution nothing is left over -/
theorem vG.rest (r:vG h n M0 M k piv n) {v:Nat→R} (hv:Kg h n M0 v) {i:Nat} (h1:k≤i) (h2:i < h):M i n=0:=by
  have:=(r.sol v).1 hv i h2
  rw [← this]
  exact sr fun j hj=>by rw [r.low i h1 h2 j hj];grind
end
end Sp

/- The field of a supported prime: numbers below p as a commutative ring without zero divisors. Plain Lean, no program. -/
set_option linter.unusedVariables false
namespace Sp
open Lean.Grind
/-- a number modulo p -/
def o (p:Nat) [NeZero p] (n:Nat):Fin p:=Fin.ofNat p n
section
variable {p:Nat} [NeZero p]
theorem Jz {a b:Nat}:o p a=o p b ↔ a % p=b % p:=by
  constructor
  · intro h;exact congrArg Fin.val h
  · intro h;exact Fin.ext h
theorem mf {a:Nat}:o p (a % p)=o p a:=Jz.2 (Nat.mod_mod a p)
theorem xQ (a:Fin p):o p a.val=a:=Fin.ext (Nat.mod_eq_of_lt a.isLt)
theorem tD {a b:Nat} (ha:a < p) (hb:b < p) (h:o p a=o p b):a=b:=by
  rw [Jz,Nat.mod_eq_of_lt ha,Nat.mod_eq_of_lt hb] at h;exact h
theorem yK {a b:Nat}:o p (a+b)=o p a+o p b:=by
  apply Fin.ext;simp [o,Fin.add_def]
theorem pW {a b:Nat}:o p (a*b)=o p a*o p b:=by
  apply Fin.ext;simp [o,Fin.mul_def,Nat.mul_mod]
theorem lk:o p 0=0:=by apply Fin.ext;simp [o]
theorem Gb:o p p=0:=by apply Fin.ext;simp [o]
theorem xP:o p 1=1:=rfl
theorem wD {a:Nat}:o p a=0 ↔ a % p=0:=by rw [← lk,Jz,Nat.zero_mod]
theorem Kx {a b:Nat} (h:b≤a):o p (a - b)=o p a - o p b:=by
  have:o p (a - b)+o p b=o p a:=by rw [← yK];congr 1;omega
  grind
end
theorem fX.ne {p:Nat} (h:fX p):NeZero p:=⟨by have:=h.lt;omega⟩
theorem fX.nz {p:Nat} [NeZero p] (h:fX p) (a b:Fin p) (e:a*b=0):a=0 ∨ b=0:=by
  rw [← xQ a,← xQ b,← pW,wD] at e
  rw [← xQ a,← xQ b,wD,wD]
  exact h.mul0 e
theorem fX.one {p:Nat} [NeZero p] (h:fX p):(1:Fin p)≠0:=by
  rw [← xP,← lk]
  intro e
  have:=h.lt
  have:=tD (by omega) (by omega) e
  omega
theorem fX.oinv {p a:Nat} [NeZero p] (h:fX p) (ha:a % p≠0):o p (JF p a (p - 2))*o p a=1:=by
  rw [← pW,← xP,Jz,Nat.mul_comm,h.inv ha,Nat.mod_eq_of_lt]
  have:=h.lt;omega
end Sp

/- The equations of Berlekamp and Welch: what a solution says, and that there is one. Plain Lean, no program. -/
set_option linter.unusedVariables false
namespace Sp
open Lean.Grind
section
variable {R:Type} [CommRing R]
theorem BF {n:Nat} (f:Nat→R):sm (n+1) f=f 0+sm n (fun j=>f (j+1)):=by
  induction n with
  | zero=>simp only [sm];grind
  | succ n ih=>rw [sm,ih,sm];grind
theorem Mi {m n:Nat} (f:Nat→R):sm (m+n) f=sm m f+sm n (fun j=>f (m+j)):=by
  induction n with
  | zero=>simp only [Nat.add_zero,sm];grind
  | succ n ih=>rw [← Nat.add_assoc,sm,ih,sm];grind
theorem xD {n:Nat} {f:List R} (x:R) (h:f.length≤n):cc f x=sm n (fun j=>cf f j*x ^ j):=by
  induction f generalizing n with
  | nil=>rw [sr (fun j _=>by rw [ti];grind)];rfl
  | cons a f ih =>
    cases n with
    | zero=>simp at h
    | succ n =>
      rw [BF,cc,ih (n:=n) (by simpa using h),← oT,qo]
      rw [bY (f:=fun j=>x*(cf f j*x ^ j)) (g:=fun j=>cf (a :: f) (j+1)*x ^ (j+1)) (fun j _=>by rw [kT];grind)]
      grind
/-- a row of the equations -/
def lZ (deg w:Nat) (x y:R) (j:Nat):R :=
  if j < deg+w+1 then x ^ j else if j < deg+w+1+w then -(y*x ^ (j - (deg+w+1))) else y*x ^ w
theorem EQ {deg w:Nat} {x y:R} {v:Nat→R} {q e:List R} (hq:q.length=deg+w+1) (he:e.length=w+1) (h1:cf e w=1) (hqv:∀ j,j < deg+w+1→v j=cf q j) (hev:∀ k,k < w→v (deg+w+1+k)=cf e k) :
    dot (deg+w+1+w) (lZ deg w x y) v=lZ deg w x y (deg+w+1+w) ↔ cc q x=y*cc e x:=by
  have a1:dot (deg+w+1+w) (lZ deg w x y) v=cc q x - y*sm w (fun k=>cf e k*x ^ k):=by
    unfold dot
    rw [Mi,bY (f:=fun j=>lZ deg w x y j*v j) (g:=fun j=>cf q j*x ^ j) (fun j hj=>by rw [hqv j hj,lZ,if_pos hj];grind),← xD x (Nat.le_of_eq hq)]
    rw [bY (f:=fun j=>lZ deg w x y (deg+w+1+j)*v (deg+w+1+j)) (g:=fun j=>(-y)*(cf e j*x ^ j)) (fun j hj=>by
      rw [hev j hj,lZ,if_neg (by omega),if_pos (by omega),Nat.add_sub_cancel_left];grind),oT]
    grind
  have a2:lZ deg w x y (deg+w+1+w)=y*x ^ w:=by rw [lZ,if_neg (by omega),if_neg (by omega)]
  have a3:cc e x=sm w (fun k=>cf e k*x ^ k)+x ^ w:=by
    rw [xD x (Nat.le_of_eq he),sm,h1];grind
  rw [a1,a2,a3]
  constructor <;> intro h <;> grind
/-- a monic polynomial of degree w with given roots -/
theorem C8:∀ (w:Nat) (rs:List R),rs.length≤w→∃ e:List R,e.length=w+1∧cf e w=1∧∀ x ∈ rs,cc e x=0:=by
  intro w
  induction w with
  | zero=>intro rs h;have:rs=[]:=List.eq_nil_of_length_eq_zero (by omega);subst this;exact ⟨[1],rfl,rfl,by simp⟩
  | succ w ih =>
    intro rs h
    have key:∀ (r:R) (rs:List R),rs.length≤w→∃ e:List R,e.length=w+1+1∧cf e (w+1)=1∧cc e r=0∧∀ x ∈ rs,cc e x=0:=by
      intro r rs h
      obtain ⟨e,h1,h2,h3⟩:=ih rs h
      refine ⟨wh (0 :: e) (wn r e),by rw [vo,tQ];simp;omega,by rw [va,qn,kT,h2,wy (by omega)];grind,by rw [pQ,rm,cc];grind,fun x hx=>by rw [pQ,rm,cc,h3 x hx];grind⟩
    cases rs with
    | nil =>
      obtain ⟨e,h1,h2,_,h3⟩:=key 0 [] (by simp)
      exact ⟨e,h1,h2,h3⟩
    | cons r rs =>
      obtain ⟨e,h1,h2,h4,h3⟩:=key r rs (by simpa using h)
      refine ⟨e,h1,h2,fun x hx=>?_⟩
      rcases List.mem_cons.1 hx with rfl | hx
      · exact h4
      · exact h3 x hx
theorem DC {deg w:Nat} {f0 bad:List R} (h0:f0.length≤deg+1) (hb:bad.length≤w) :
    ∃ v:Nat→R,∀ x y:R,(x ∈ bad ∨ y=cc f0 x)→dot (deg+w+1+w) (lZ deg w x y) v=lZ deg w x y (deg+w+1+w):=by
  obtain ⟨e,he,h1,hz⟩:=C8 w bad hb
  let q0:=mB f0 e
  let q:List R:=(List.range (deg+w+1)).map (cf q0)
  have hq0:q0.length≤deg+w+1:=by have:=ru f0 e (by omega);show (mB f0 e).length≤_;omega
  have hq:q.length=deg+w+1:=by simp [q]
  have hqc:∀ i,cf q i=cf q0 i:=fun i=>by
    by_cases g:i < deg+w+1
    · simp only [q];unfold cf;simp [g]
    · rw [wy (by omega),wy (by omega)]
  refine ⟨fun j=>if j < deg+w+1 then cf q j else cf e (j - (deg+w+1)),fun x y hxy=>?_⟩
  rw [EQ (q:=q) (e:=e) hq he h1 (fun j hj=>if_pos hj) (fun k hk=>by rw [if_neg (by omega),Nat.add_sub_cancel_left])]
  rw [kU hqc]
  show cc (mB f0 e) x=_
  rw [pO]
  rcases hxy with g | g
  · rw [hz x g];grind
  · rw [g]
end
end Sp

/- The folding of a product modulo a Mersenne prime ends. Plain Lean, no program. -/
set_option linter.unusedVariables false
namespace Sp
def K0 (h l:Nat):Nat:=if h=0 then l / 4 else 4611686018427387904+h
theorem KZ {p l:Nat} (hp:fX p) (hl:l < 18446744073709551616):l &&& p=fm p l:=by
  have:=hp.q
  unfold fm
  conv=>lhs;rw [this.1]
  exact Nat.and_two_pow_sub_one_eq_mod l (qP p)
theorem FY {p h l:Nat} (hp:fX p) (hh:h < 18446744073709551616) (hl:l < 18446744073709551616) (h0:h≠0):nh p h l < h:=by
  have hq:=hp.q
  have h1:=Kn (h:=h) hp
  have h2:=Ko (h:=h) hp hl
  have h3:=Kp (p:=p) hl
  have hc:nc p h l≤1:=by unfold nc;omega
  unfold nh
  by_cases g:h=1
  · subst g
    have:nc p 1 l=0:=by
      unfold nc
      rw [Nat.div_eq_zero_iff]
      right
      have a1:fm p l < 2305843009213693952:=by
        unfold fm
        have:2 ^ qP p≤2 ^ 61:=Nat.pow_le_pow_right (by decide) hq.2.2
        have:=Nat.mod_lt l (Nat.two_pow_pos (qP p))
        omega
      have a2:fl p 1 l < 1152921504606846976:=by
        unfold fl
        have e1:l / 2 ^ qP p < 2 ^ (64 - qP p):=wb hl (by omega)
        have e2:1 % 2 ^ qP p≤1:=Nat.mod_le _ _
        have e3:2 ^ (64 - qP p)≤2 ^ 59:=Nat.pow_le_pow_right (by decide) (by omega)
        have e4:2 ^ (64 - qP p)*(1 % 2 ^ qP p)≤2 ^ (64 - qP p)*1:=Nat.mul_le_mul_left _ e2
        omega
      omega
    omega
  · omega
theorem FZ {p l:Nat} (hp:fX p) (hl:l < 18446744073709551616) (h0:p < l):nh p 0 l=0∧nl p 0 l+31≤l:=by
  have hq:=hp.q
  have e:=A2 (p:=p) (h:=0) (l:=l) hp
  rw [Nat.zero_mul,Nat.zero_add] at e
  have hle:=hp.lt
  have hP:2 ^ qP p=p+1:=by have:=Nat.two_pow_pos (qP p);omega
  rw [hP] at e
  have d:=Nat.div_add_mod l (p+1)
  have hk:1≤l / (p+1):=(Nat.le_div_iff_mul_le (by omega)).2 (by omega)
  have:l / (p+1)+31≤(p+1)*(l / (p+1)):=by
    have:=Nat.mul_le_mul_right (l / (p+1)) (show 32≤p+1 by omega)
    omega
  have hs:nh p 0 l*18446744073709551616+nl p 0 l+31≤l:=by omega
  constructor
  · apply Classical.byContradiction
    intro g
    have:1≤nh p 0 l:=by omega
    have:=Nat.mul_le_mul_right 18446744073709551616 this
    omega
  · omega
theorem HU {p h l:Nat} (hp:fX p) (hh:h < 4611686018427387904) (hl:l < 18446744073709551616) (c:h≠0 ∨ p < l):K0 (nh p h l) (nl p h l) < K0 h l:=by
  by_cases h0:h=0
  · subst h0
    have:=FZ hp hl (by omega)
    unfold K0
    rw [if_pos this.1,if_pos rfl];omega
  · have:=FY hp (by omega) hl h0
    have h3:=Kw (p:=p) (h:=h) (l:=l)
    unfold K0
    rw [if_neg h0]
    split <;> omega
theorem K1 {h l:Nat} (hh:h < 4611686018427387904) (hl:l < 18446744073709551616):K0 h l < 18446744073709551616:=by
  unfold K0;split <;> omega
end Sp
