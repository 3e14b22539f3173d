/- Plain facts on the primes 2^q - 1 and on words of 64 bits. No Go in it. -/
set_option linter.unusedVariables false
namespace Sp
/-- The supported primes. -/
def iq (p:Nat):Prop:=p=31 ∨ p=127 ∨ p=8191 ∨ p=131071 ∨ p=524287 ∨ p=2147483647 ∨ p=2305843009213693951
def mL (p:Nat):Nat:=if p=31 then 5 else if p=127 then 7 else if p=8191 then 13 else if p=131071 then 17 else if p=524287 then 19 else if p=2147483647 then 31 else 61
theorem iq.q {p:Nat} (h:iq p):p=2 ^ mL p - 1∧5≤mL p∧mL p≤61:=by
  rcases h with rfl | rfl | rfl | rfl | rfl | rfl | rfl <;> decide
theorem iq.lt {p:Nat} (h:iq p):31≤p∧p≤2305843009213693951:=by
  rcases h with rfl | rfl | rfl | rfl | rfl | rfl | rfl <;> decide

theorem DK {a b i:Nat} (h:b < 2 ^ i):2 ^ i*a ||| b=2 ^ i*a+b:=(Nat.two_pow_add_eq_or_of_lt h a).symm

theorem G6 {q:Nat} (hq:q≤64):18446744073709551616=2 ^ (64 - q)*2 ^ q:=by
  rw [← Nat.pow_add,show 64 - q+q=64 by omega]
/-- hi << (64 - q) -/
theorem D1 {hi q:Nat} (hq:q≤64):hi*2 ^ (64 - q) % 18446744073709551616=2 ^ (64 - q)*(hi % 2 ^ q):=by
  have e:18446744073709551616=2 ^ (64 - q)*2 ^ q:=by rw [← Nat.pow_add,show 64 - q+q=64 by omega]
  rw [e,Nat.mul_comm hi,Nat.mul_mod_mul_left]
theorem rc {lo q:Nat} (hlo:lo < 18446744073709551616) (hq:q≤64):lo / 2 ^ q < 2 ^ (64 - q):=by
  rw [Nat.div_lt_iff_lt_mul (Nat.two_pow_pos q),← Nat.pow_add,show 64 - q+q=64 by omega];exact hlo
/-- the low word of n >> q -/
theorem E0 {hi lo q:Nat} (hlo:lo < 18446744073709551616) (hq:q≤64):lo / 2 ^ q ||| hi*2 ^ (64 - q) % 18446744073709551616=lo / 2 ^ q+2 ^ (64 - q)*(hi % 2 ^ q):=by
  rw [D1 hq,Nat.or_comm,DK (rc hlo hq),Nat.add_comm]

/-- One round: the bits above q are added to those below. -/
theorem xK {W A B hi lo:Nat} (hB:0 < B) (w:W=A*B):hi / B*W+(lo / B+A*(hi % B))+lo % B=(hi*W+lo) / B+(hi*W+lo) % B:=by
  have hs:hi*W=B*(A*hi):=by rw [w,Nat.mul_comm,Nat.mul_comm A B,Nat.mul_assoc]
  have e1:(B*(A*hi)+lo) / B=A*hi+lo / B:=Nat.mul_add_div hB ..
  have e2:(B*(A*hi)+lo) % B=lo % B:=Nat.mul_add_mod ..
  rw [hs,e1,e2]
  have h3:A*hi=hi / B*W+A*(hi % B):=by
    have t:hi=B*(hi / B)+hi % B:=(Nat.div_add_mod ..).symm
    have h64:A*(B*(hi / B))=hi / B*W:=by
      rw [← Nat.mul_assoc,← w,Nat.mul_comm]
    rw [← h64,← Nat.mul_add,← t]
  generalize hi / B*W=X at *
  generalize A*(hi % B)=Y at *
  rw [h3]
  omega
theorem yP {hi lo q:Nat} (hq:q≤64):hi / 2 ^ q*18446744073709551616+(lo / 2 ^ q+2 ^ (64 - q)*(hi % 2 ^ q))+lo % 2 ^ q=(hi*18446744073709551616+lo) / 2 ^ q+(hi*18446744073709551616+lo) % 2 ^ q :=
  xK (Nat.two_pow_pos q) (G6 hq)
theorem yO {n q:Nat} (hq:1≤q):(n / 2 ^ q+n % 2 ^ q) % (2 ^ q - 1)=n % (2 ^ q - 1):=by
  have h2:2≤2 ^ q:=by
    have:=Nat.pow_le_pow_right (show 0 < 2 by decide) hq
    simpa using this
  have e:n=(2 ^ q - 1)*(n / 2 ^ q)+(n / 2 ^ q+n % 2 ^ q):=by
    have h:=(Nat.div_add_mod n (2 ^ q)).symm
    have:(2 ^ q - 1)*(n / 2 ^ q)+n / 2 ^ q=2 ^ q*(n / 2 ^ q):=by
      rw [Nat.sub_mul,Nat.one_mul]
      have:n / 2 ^ q≤2 ^ q*(n / 2 ^ q):=Nat.le_mul_of_pos_left _ (by omega)
      omega
    omega
  conv=>rhs;rw [e]
  rw [Nat.mul_add_mod]
/-- products of words -/
theorem xi {a b:Nat} (ha:a < 4294967296) (hb:b < 4294967296):a*b≤18446744065119617025:=by
  have:=Nat.mul_le_mul (show a≤4294967295 by omega) (show b≤4294967295 by omega)
  omega
theorem ES (x y:Nat) :
    let x0:=x % 4294967296;let x1:=x / 4294967296;let y0:=y % 4294967296;let y1:=y / 4294967296
    let t:=x1*y0+x0*y0 / 4294967296
    let w1:=t % 4294967296+x0*y1
    x1*y1+t / 4294967296+w1 / 4294967296=x*y / 18446744073709551616:=by
  intro x0 x1 y0 y1 t w1
  have ex:x=4294967296*x1+x0:=(Nat.div_add_mod ..).symm
  have ey:y=4294967296*y1+y0:=(Nat.div_add_mod ..).symm
  have e:x*y=18446744073709551616*(x1*y1)+4294967296*(x1*y0)+4294967296*(x0*y1)+x0*y0:=by
    rw [ex,ey,Nat.add_mul,Nat.mul_add,Nat.mul_add]
    have a1:4294967296*x1*(4294967296*y1)=18446744073709551616*(x1*y1):=by
      rw [Nat.mul_mul_mul_comm]
    have a2:4294967296*x1*y0=4294967296*(x1*y0):=Nat.mul_assoc ..
    have a3:x0*(4294967296*y1)=4294967296*(x0*y1):=Nat.mul_left_comm ..
    rw [a1,a2,a3]
    have a4:(4294967296*x1+x0) % 4294967296=x0:=by rw [← ex]
    omega
  rw [e]
  have p00:=Nat.div_add_mod (x0*y0) 4294967296
  have l00:=Nat.mod_lt (x0*y0) (show 0 < 4294967296 by decide)
  have pt:=Nat.div_add_mod t 4294967296
  have lt:=Nat.mod_lt t (show 0 < 4294967296 by decide)
  have pw:=Nat.div_add_mod w1 4294967296
  have lw:=Nat.mod_lt w1 (show 0 < 4294967296 by decide)
  have et:t=x1*y0+x0*y0 / 4294967296:=rfl
  have ew:w1=t % 4294967296+x0*y1:=rfl
  generalize x1*y1=A at *
  generalize x1*y0=B at *
  generalize x0*y1=C at *
  generalize x0*y0=D at *
  omega

/- one round of the reduction -/
def fl (p h l:Nat):Nat:=l / 2 ^ mL p+2 ^ (64 - mL p)*(h % 2 ^ mL p)
def fm (p l:Nat):Nat:=l % 2 ^ mL p
def fh (p h:Nat):Nat:=h / 2 ^ mL p
def nl (p h l:Nat):Nat:=(fl p h l+fm p l) % 18446744073709551616
def nc (p h l:Nat):Nat:=(fl p h l+fm p l) / 18446744073709551616
def nh (p h l:Nat):Nat:=fh p h+nc p h l
theorem CG {p h l:Nat} (hp:iq p) (hl:l < 18446744073709551616):fl p h l < 18446744073709551616:=by
  have hq:=hp.q
  have h1:l / 2 ^ mL p < 2 ^ (64 - mL p):=rc hl (by omega)
  have h2:h % 2 ^ mL p < 2 ^ mL p:=Nat.mod_lt _ (Nat.two_pow_pos _)
  have h3:2 ^ (64 - mL p)*(h % 2 ^ mL p+1)≤2 ^ (64 - mL p)*2 ^ mL p:=Nat.mul_le_mul_left _ h2
  have w:=G6 (q:=mL p) (by omega)
  rw [← w,Nat.mul_add,Nat.mul_one] at h3
  unfold fl;omega
theorem CH {p l:Nat} (hl:l < 18446744073709551616):fm p l < 18446744073709551616:=Nat.lt_of_le_of_lt (Nat.mod_le ..) hl
theorem CM {p h l:Nat}:nl p h l < 18446744073709551616:=Nat.mod_lt _ (by decide)
theorem CF {p h:Nat} (hp:iq p):fh p h≤h / 32:=by
  have h1:2 ^ 5≤2 ^ mL p:=Nat.pow_le_pow_right (by decide) hp.q.2.1
  exact Nat.div_le_div_left h1 (by decide)
theorem ET {p h l:Nat} (hp:iq p) (hh:h < 18446744073709551616) (hl:l < 18446744073709551616):nh p h l < 18446744073709551616:=by
  have h1:=CF (h:=h) hp
  have h2:=CG (h:=h) hp hl
  have h3:=CH (p:=p) hl
  have:nc p h l≤1:=by unfold nc;omega
  unfold nh;omega
theorem vg {p h l:Nat} (hp:iq p):nh p h l*18446744073709551616+nl p h l=(h*18446744073709551616+l) / 2 ^ mL p+(h*18446744073709551616+l) % 2 ^ mL p:=by
  have hq:=hp.q
  rw [← yP (hi:=h) (lo:=l) (q:=mL p) (by omega)]
  have h1:=Nat.div_add_mod (fl p h l+fm p l) 18446744073709551616
  unfold nh nl
  change _=fh p h*18446744073709551616+fl p h l+fm p l
  unfold nc
  omega
theorem yN {p h l n:Nat} (hp:iq p) (e:(h*18446744073709551616+l) % p=n % p):(nh p h l*18446744073709551616+nl p h l) % p=n % p:=by
  have hq:=hp.q
  rw [vg hp]
  have:=yO (n:=h*18446744073709551616+l) (q:=mL p) (by omega)
  rw [← hq.1] at this
  rw [this,e]
theorem EZ {p h l:Nat} (hp:iq p) (hl:l < 18446744073709551616):l / 2 ^ mL p ||| h*2 ^ (64 - mL p) % 18446744073709551616=fl p h l:=E0 hl (by have:=hp.q;omega)

def add (p a b:Nat):Nat:=(a+b) % 18446744073709551616 % p
def mul (p a b:Nat):Nat:=a*b % p
def neg (p a:Nat):Nat:=if a=0 then 0 else (p+(18446744073709551616 - a)) % 18446744073709551616
def Cc (p a n:Nat):Nat:=a ^ n % p
def inv (p a:Nat):Nat:=if a=0 then 0 else Cc p a (p - 2)
theorem iq.pos {p:Nat} (h:iq p):0 < p:=by have:=h.lt;omega
theorem zx {p a b:Nat} (h:iq p):Cc p a b < p:=Nat.mod_lt _ h.pos
/-- repeated squaring -/
theorem pow_odd {p o a n z:Nat} (e:o*a ^ n % p=z) (h:n % 2=1):mul p o a*mul p a a ^ (n / 2) % p=z:=by
  have:n=2*(n / 2)+1:=by omega
  rw [← e]
  conv=>rhs;rw [this]
  rw [Nat.pow_succ,Nat.pow_mul]
  unfold mul
  rw [Nat.mul_mod,Nat.mod_mod,Nat.pow_mod,Nat.mod_mod,← Nat.pow_mod,← Nat.mul_mod,Nat.pow_two,Nat.mul_assoc,Nat.mul_comm a]
theorem pow_even {p o a n z:Nat} (e:o*a ^ n % p=z) (h:n % 2=0):o*mul p a a ^ (n / 2) % p=z:=by
  have:n=2*(n / 2):=by omega
  rw [← e]
  conv=>rhs;rw [this]
  rw [Nat.pow_mul]
  unfold mul
  rw [Nat.mul_mod,Nat.pow_mod,Nat.mod_mod,← Nat.pow_mod,← Nat.mul_mod,Nat.pow_two]
def sub (p a b:Nat):Nat:=add p a (neg p b)
end Sp
namespace Sp
theorem DI {x y:Nat} (hx:x < 18446744073709551616) (hy:y < 18446744073709551616):x*y / 18446744073709551616 < 18446744073709551616:=by
  have:=Nat.mul_le_mul (show x≤18446744073709551615 by omega) (show y≤18446744073709551615 by omega)
  omega
end Sp

/- Prime numbers: Fermat's little theorem, and that the seven supported numbers are prime. Plain Lean, no program. -/
set_option linter.unusedVariables false
namespace Sp
theorem dx {β:Type} {l:List β} {i j:Nat} {v d:β} (h:i < l.length):(l.set i v).getD j d=if i=j then v else l.getD j d:=by
  rw [List.getD_eq_getElem?_getD,List.getD_eq_getElem?_getD,List.getElem?_set]
  split
  · rename_i e;subst e;simp
  · rfl
def Pr (p:Nat):Prop:=2≤p∧∀ d,d ∣ p→d=1 ∨ d=p
theorem Pr.mul {p a b:Nat} (hp:Pr p) (h:p ∣ a*b):p ∣ a ∨ p ∣ b:=by
  rcases hp.2 _ (Nat.gcd_dvd_left p a) with g | g
  · right
    exact Nat.Coprime.dvd_of_dvd_mul_left (show Nat.Coprime p a from g) h
  · left
    rw [← g];exact Nat.gcd_dvd_right p a
theorem vt {l1:List Nat}:∀ {l2:List Nat},l1.Nodup→(∀ x ∈ l1,x ∈ l2)→l1.length=l2.length→l1.Perm l2:=by
  induction l1 with
  | nil=>intro l2 _ _ hl;have:l2=[]:=List.eq_nil_of_length_eq_zero hl.symm;subst this;exact List.Perm.refl _
  | cons x t ih =>
    intro l2 hn hs hl
    have hx:x ∈ l2:=hs x (by simp)
    have hp:=List.perm_cons_erase hx
    have hl2:=hp.length_eq
    rw [List.nodup_cons] at hn
    have:=ih (l2:=l2.erase x) hn.2 (fun y hy=>by
      have hy2:y ∈ l2:=hs y (by simp [hy])
      have hne:y≠x:=fun e=>hn.1 (e ▸ hy)
      exact (List.mem_erase_of_ne hne).2 hy2) (by simp at hl hl2;omega)
    exact (List.Perm.cons x this).trans hp.symm
def rO (l:List Nat):Nat:=l.foldr (·*·) 1
theorem ya {a b:List Nat} (h:a.Perm b):rO a=rO b:=by
  induction h with
  | nil=>rfl
  | cons x _ ih=>simp only [rO,List.foldr_cons] at *;rw [ih]
  | swap x y l=>simp only [rO,List.foldr_cons];exact Nat.mul_left_comm ..
  | trans _ _ h1 h2=>exact h1.trans h2
theorem zB {p a:Nat} (l:List Nat):rO (l.map (fun x=>a*x % p)) % p=a ^ l.length*rO l % p:=by
  induction l with
  | nil=>simp [rO]
  | cons x t ih =>
    simp only [rO,List.map_cons,List.foldr_cons,List.length_cons] at *
    rw [Nat.mul_mod,ih,Nat.mod_mod,← Nat.mul_mod,Nat.pow_succ]
    congr 1
    rw [Nat.mul_assoc,Nat.mul_assoc,Nat.mul_left_comm x,Nat.mul_left_comm a]
theorem zC {p:Nat} (hp:Pr p) {l:List Nat} (h:∀ x ∈ l,¬ p ∣ x):¬ p ∣ rO l:=by
  induction l with
  | nil=>intro d;have:=Nat.le_of_dvd (by decide) d;have:=hp.1;simp [rO] at *;omega
  | cons x t ih =>
    intro d
    rcases hp.mul (show p ∣ x*rO t from d) with g | g
    · exact h x (by simp) g
    · exact ih (fun y hy=>h y (by simp [hy])) g
theorem uA {p x y:Nat} (h:x % p=y % p) (hxy:x≤y):p ∣ y - x:=by
  have:=Nat.sub_mod_eq_zero_of_mod_eq (h.symm)
  exact Nat.dvd_of_mod_eq_zero this
theorem yB {p a:Nat} (hp:Pr p) (ha:¬ p ∣ a):a ^ (p - 1) % p=1:=by
  have h2:=hp.1
  let l:=(List.range (p - 1)).map (·+1)
  have hm:∀ x,x ∈ l ↔ 1≤x∧x < p:=fun x=>by
    simp only [l,List.mem_map,List.mem_range]
    constructor
    · rintro ⟨y,hy,rfl⟩;omega
    · rintro ⟨h1,h3⟩;exact ⟨x - 1,by omega,by omega⟩
  have hl:l.length=p - 1:=by simp [l]
  have hnd:∀ x ∈ l,¬ p ∣ x:=fun x hx d=>by
    have:=(hm x).1 hx
    have:=Nat.le_of_dvd (by omega) d
    omega
  have hlt:∀ x,a*x % p < p:=fun x=>Nat.mod_lt _ (by omega)
  have inj:∀ x ∈ l,∀ y ∈ l,x≤y→a*x % p=a*y % p→x=y:=fun x hx y hy hxy e=>by
    have d:=uA e (Nat.mul_le_mul_left a hxy)
    rw [← Nat.mul_sub] at d
    rcases hp.mul d with g | g
    · exact absurd g ha
    · have hx1:=(hm x).1 hx
      have hy1:=(hm y).1 hy
      rcases Nat.eq_zero_or_pos (y - x) with z | z
      · omega
      · have:=Nat.le_of_dvd z g
        omega
  have hperm:(l.map (fun x=>a*x % p)).Perm l:=by
    apply vt
    · have hnl:l.Nodup:=by
        apply List.Pairwise.map (R:=fun a b=>a≠b)
        · intro a b h;omega
        · exact List.nodup_range
      rw [List.Nodup,List.pairwise_map]
      refine List.Pairwise.imp_of_mem ?_ hnl
      intro x y hx hy hne e
      rcases Nat.le_total x y with g | g
      · exact hne (inj x hx y hy g e)
      · exact hne (inj y hy x hx g e.symm).symm
    · intro z hz
      obtain ⟨x,hx,rfl⟩:=List.mem_map.1 hz
      refine (hm _).2 ⟨?_,hlt x⟩
      rcases Nat.eq_zero_or_pos (a*x % p) with z | z
      · exfalso
        rcases hp.mul (Nat.dvd_of_mod_eq_zero z) with g | g
        · exact ha g
        · exact hnd x hx g
      · exact z
    · simp
  have e:=zB (p:=p) (a:=a) l
  rw [ya hperm,hl] at e
  have hq:=zC hp hnd
  generalize rO l=P at e hq
  have ha0:0 < a:=by
    rcases Nat.eq_zero_or_pos a with z | z
    · exact absurd (z ▸ Nat.dvd_zero p) ha
    · exact z
  have h1:0 < a ^ (p - 1):=Nat.pow_pos ha0
  generalize a ^ (p - 1)=A at e h1
  have d:=uA e (Nat.le_mul_of_pos_left P h1)
  have d2:p ∣ (A - 1)*P:=by rw [Nat.sub_mul,Nat.one_mul];exact d
  rcases hp.mul d2 with g | g
  · obtain ⟨k,hk⟩:=g
    have:A=1+p*k:=by omega
    rw [this,Nat.add_mul_mod_self_left]
    exact Nat.mod_eq_of_lt (by omega)
  · exact absurd g hq
/-- the least divisor that is not 1 is prime -/
theorem least {n:Nat} (h:2≤n):∃ r,Pr r∧r ∣ n:=by
  induction n using Nat.strongRecOn with
  | _ n ih =>
    by_cases hp:∀ d,d ∣ n→d=1 ∨ d=n
    · exact ⟨n,⟨h,hp⟩,Nat.dvd_refl n⟩
    · have:∃ d,d ∣ n∧d≠1∧d≠n:=by
        apply Classical.byContradiction
        intro g
        apply hp
        intro d hd
        by_cases h1:d=1
        · exact Or.inl h1
        · by_cases h2:d=n
          · exact Or.inr h2
          · exact absurd ⟨d,hd,h1,h2⟩ g
      obtain ⟨d,hd,h1,h2⟩:=this
      have hle:=Nat.le_of_dvd (by omega) hd
      have h0:d≠0:=fun z=>by subst z;have:=Nat.eq_zero_of_zero_dvd hd;omega
      obtain ⟨r,hr,hrd⟩:=ih d (by omega) (by omega)
      exact ⟨r,hr,Nat.dvd_trans hrd hd⟩
/-- prime, if nothing up to a bound divides -/
theorem E7 {p b:Nat} (h2:2≤p) (hb:p < b*b) (h:∀ d,2≤d→d < b→¬ d ∣ p):Pr p:=by
  refine ⟨h2,fun d hd=>?_⟩
  by_cases h1:d=1
  · exact Or.inl h1
  right
  obtain ⟨e,he⟩:=hd
  have hd0:d≠0:=fun z=>by subst z;omega
  by_cases hdb:d < b
  · exact absurd ⟨e,he⟩ (h d (by omega) hdb)
  · have heb:e < b:=by
      apply Classical.byContradiction
      intro g
      have:=Nat.mul_le_mul (show b≤d by omega) (show b≤e by omega)
      omega
    by_cases he1:e=1
    · subst he1;omega
    · have he0:e≠0:=fun z=>by subst z;omega
      exact absurd ⟨d,by rw [Nat.mul_comm];exact he⟩ (h e (by omega) heb)
/-- nothing from d on, n numbers, divides p -/
def xj (p:Nat):Nat→Nat→Bool
  | 0,_=>true
  | n+1,d=>(p % d != 0) && xj p n (d+1)
theorem zh {p:Nat}:∀ {n d},xj p n d=true→∀ e,d≤e→e < d+n→¬ e ∣ p:=by
  intro n
  induction n with
  | zero=>intro d _ e h1 h2;omega
  | succ n ih =>
    intro d h e h1 h2 hd
    simp only [xj,Bool.and_eq_true,bne_iff_ne] at h
    by_cases g:e=d
    · subst g;exact h.1 (Nat.mod_eq_zero_of_dvd hd)
    · exact ih h.2 e (by omega) (by omega) hd
theorem hQ {p n:Nat} (h2:2≤p) (hb:p < (n+2)*(n+2)) (h:xj p n 2=true):Pr p :=
  E7 (b:=n+2) h2 hb fun d h3 h4=>zh h d h3 (by omega)
theorem ord {r b m:Nat}:∀ {n},b ^ m % r=1→b ^ n % r=1→b ^ (n % m) % r=1:=by
  intro n hm hn
  have:n=m*(n / m)+n % m:=(Nat.div_add_mod n m).symm
  rw [this,Nat.pow_add,Nat.pow_mul,Nat.mul_mod,Nat.pow_mod,hm] at hn
  by_cases hr:r=0
  · subst hr;simp at *;exact hn
  by_cases hr1:r=1
  · subst hr1;omega
  · rw [Nat.one_pow,Nat.mod_eq_of_lt (show 1 < r by omega),Nat.one_mul,Nat.mod_mod] at hn
    exact hn
theorem B7 {r b:Nat}:∀ m n,b ^ m % r=1→b ^ n % r=1→b ^ (Nat.gcd m n) % r=1:=by
  intro m n
  induction m,n using Nat.gcd.induction with
  | H0 n=>intro _ h;simpa using h
  | H1 m n hm ih=>intro h1 h2;rw [Nat.gcd_rec];exact ih (ord h1 h2) h1
/-- Pocklington: a prime divisor is 1 modulo q -/
theorem GD {p r q b:Nat} (hr:Pr r) (hd:r ∣ p) (hq:Pr q) (h1:b ^ q % p=1) (h2:Nat.gcd (b - 1) p=1) (hp:2≤p) (hb:0 < b):q ∣ r - 1:=by
  have hr2:=hr.1
  have e1:b ^ q % r=1:=by
    rw [← Nat.mod_mod_of_dvd _ hd,h1];exact Nat.mod_eq_of_lt (by omega)
  have hnb:¬ r ∣ b:=fun g=>by
    have:b ^ q % r=0:=Nat.mod_eq_zero_of_dvd (by
      have hq0:q≠0:=by have:=hq.1;omega
      exact Nat.dvd_trans g (Nat.dvd_of_mod_eq_zero (by
        obtain ⟨k,rfl⟩:=Nat.exists_eq_succ_of_ne_zero hq0
        rw [Nat.pow_succ];exact Nat.mul_mod_left _ _)))
    omega
  have e2:=yB hr hnb
  have e3:=B7 q (r - 1) e1 e2
  rcases hq.2 _ (Nat.gcd_dvd_left q (r - 1)) with g | g
  · exfalso
    rw [g,Nat.pow_one] at e3
    have:r ∣ b - 1:=uA (x:=1) (y:=b) (by rw [e3];exact Nat.mod_eq_of_lt (by omega)) hb
    have:=Nat.dvd_gcd this hd
    rw [h2] at this
    have:=Nat.le_of_dvd (by decide) this
    omega
  · rw [← g];exact Nat.gcd_dvd_right _ _
/-- powers modulo p by squaring; k squarings at most -/
def pm (p:Nat):Nat→Nat→Nat→Nat→Nat
  | 0,_,_,o=>o
  | k+1,a,n,o=>if n=0 then o else pm p k (a*a % p) (n / 2) (if n % 2=1 then o*a % p else o)
theorem CO {p:Nat}:∀ {k a n o},n < 2 ^ k→o < p→pm p k a n o=o*a ^ n % p:=by
  intro k
  induction k with
  | zero => intro a n o h ho; have : n = 0 := by simpa using h
            subst this;simp [pm,Nat.mod_eq_of_lt ho]
  | succ k ih =>
    intro a n o h ho
    simp only [pm]
    split
    · next z=>subst z;simp [Nat.mod_eq_of_lt ho]
    · have hn:n / 2 < 2 ^ k:=by rw [Nat.pow_succ] at h;omega
      have hp0:0 < p:=by omega
      by_cases h1:n % 2=1
      · rw [if_pos h1,ih hn (Nat.mod_lt _ hp0)]
        have e:a ^ n=a*(a*a) ^ (n / 2):=by
          have:n=1+2*(n / 2):=by omega
          rw [this,Nat.pow_add,Nat.pow_mul,Nat.pow_one,Nat.pow_two]
          congr 3
        rw [e,Nat.mul_mod,Nat.mod_mod,Nat.pow_mod,Nat.mod_mod,← Nat.pow_mod,← Nat.mul_mod,Nat.mul_assoc]
      · rw [if_neg h1,ih hn ho]
        have e:a ^ n=(a*a) ^ (n / 2):=by
          have:n=2*(n / 2):=by omega
          rw [this,Nat.pow_mul,Nat.pow_two]
          congr 2
        rw [e,Nat.mul_mod,Nat.pow_mod,Nat.mod_mod,← Nat.pow_mod,← Nat.mul_mod]
theorem GE:Pr 31:=hQ (n:=4) (by decide) (by decide) (by decide)
theorem E3:Pr 127:=hQ (n:=10) (by decide) (by decide) (by decide)
theorem DT:Pr 8191:=hQ (n:=89) (by decide) (by decide) (by decide +kernel)
theorem zy:Pr 131071:=hQ (n:=361) (by decide) (by decide) (by decide +kernel)
theorem zA:Pr 524287:=hQ (n:=723) (by decide) (by decide) (by decide +kernel)
theorem ux:Pr 2147483647:=hQ (n:=46339) (by decide) (by decide) (by decide +kernel)
theorem GF:Pr 61:=hQ (n:=6) (by decide) (by decide) (by decide)
theorem E4:Pr 151:=hQ (n:=11) (by decide) (by decide) (by decide)
theorem E5:Pr 331:=hQ (n:=17) (by decide) (by decide) (by decide)
theorem DR:Pr 1321:=hQ (n:=35) (by decide) (by decide) (by decide +kernel)
def uJ:Nat:=2305843009213693951
theorem uw {r q:Nat} (hr:Pr r) (hd:r ∣ uJ) (hq:Pr q) (h1:pm uJ 62 37 (uJ - 1) 1=1) (hm:(uJ - 1) / q*q=uJ - 1) (h2:Nat.gcd (pm uJ 62 37 ((uJ - 1) / q) 1 - 1) uJ=1) (h3:0 < pm uJ 62 37 ((uJ - 1) / q) 1) (h4:(uJ - 1) / q < 2 ^ 62):q ∣ r - 1:=by
  have e1:37 ^ (uJ - 1) % uJ=1:=by rw [CO (by decide) (by decide),Nat.one_mul] at h1;exact h1
  refine GD (b:=pm uJ 62 37 ((uJ - 1) / q) 1) hr hd hq ?_ h2 (by decide) h3
  rw [CO h4 (by decide),Nat.one_mul,Nat.pow_mod,Nat.mod_mod,← Nat.pow_mod,← Nat.pow_mul,hm]
  exact e1
theorem Cy {r:Nat} (hr:Pr r) (hd:r ∣ uJ):4027518961 < r:=by
  have a1:=uw hr hd GF (by decide +kernel) (by decide +kernel) (by decide +kernel) (by decide +kernel) (by decide +kernel)
  have a2:=uw hr hd E4 (by decide +kernel) (by decide +kernel) (by decide +kernel) (by decide +kernel) (by decide +kernel)
  have a3:=uw hr hd E5 (by decide +kernel) (by decide +kernel) (by decide +kernel) (by decide +kernel) (by decide +kernel)
  have a4:=uw hr hd DR (by decide +kernel) (by decide +kernel) (by decide +kernel) (by decide +kernel) (by decide +kernel)
  have b1:=Nat.Coprime.mul_dvd_of_dvd_of_dvd (show Nat.Coprime 61 151 by decide) a1 a2
  have b2:=Nat.Coprime.mul_dvd_of_dvd_of_dvd (show Nat.Coprime (61*151) 331 by decide) b1 a3
  have b3:=Nat.Coprime.mul_dvd_of_dvd_of_dvd (show Nat.Coprime (61*151*331) 1321 by decide) b2 a4
  have h2:=hr.1
  clear a1 a2 a3 a4 b1 b2 hd hr
  have h3:0 < r - 1:=by omega
  have h4:=Nat.le_of_dvd h3 b3
  clear b3
  omega
theorem E6:Pr uJ:=by
  refine ⟨by decide,fun d hd=>?_⟩
  by_cases h1:d=1
  · exact Or.inl h1
  right
  obtain ⟨e,he⟩:=hd
  have hM:uJ=2305843009213693951:=rfl
  have hd0:d≠0:=fun z=>by subst z;omega
  have he0:e≠0:=fun z=>by subst z;omega
  by_cases he1:e=1
  · subst he1;omega
  obtain ⟨r,hr,hrd⟩:=least (n:=d) (by omega)
  obtain ⟨t,ht,htd⟩:=least (n:=e) (by omega)
  have g1:=Cy hr (Nat.dvd_trans hrd ⟨e,he⟩)
  have g2:=Cy ht (Nat.dvd_trans htd ⟨d,by rw [Nat.mul_comm];exact he⟩)
  have g3:=Nat.le_of_dvd (by omega) hrd
  have g4:=Nat.le_of_dvd (by omega) htd
  have:=Nat.mul_le_mul (show 4027518961≤d by omega) (show 4027518961≤e by omega)
  omega
theorem iq.pr {p:Nat} (h:iq p):Pr p:=by
  rcases h with rfl | rfl | rfl | rfl | rfl | rfl | rfl
  · exact GE
  · exact E3
  · exact DT
  · exact zy
  · exact zA
  · exact ux
  · exact E6
theorem iq.inv {p a:Nat} (h:iq p) (ha:a % p≠0):a*Cc p a (p - 2) % p=1:=by
  have h1:=h.lt
  have:=yB h.pr (fun d=>ha (Nat.mod_eq_zero_of_dvd d))
  unfold Cc
  rw [Nat.mul_mod,Nat.mod_mod,← Nat.mul_mod,← Nat.pow_succ']
  rw [show (p - 2).succ=p - 1 by omega];exact this
theorem iq.mul0 {p a b:Nat} (h:iq p) (e:a*b % p=0):a % p=0 ∨ b % p=0:=by
  rcases h.pr.mul (Nat.dvd_of_mod_eq_zero e) with g | g
  · exact Or.inl (Nat.mod_eq_zero_of_dvd g)
  · exact Or.inr (Nat.mod_eq_zero_of_dvd g)
end Sp

/- Polynomials as lists over a commutative ring without zero divisors: evaluation, product, root counting. Plain Lean, no program. -/
set_option linter.unusedVariables false
namespace Sp
open Lean.Grind
section
variable {R:Type} [CommRing R]
def fF:List R→R→R
  | [],_=>0
  | a :: t,x=>a+x*fF t x
/-- the quotient by x - c, of the tail -/
def sd (c:R):List R→List R
  | []=>[]
  | a :: t=>fF (a :: t) c :: sd c t
theorem DZ (c:R) (f:List R):(sd c f).length=f.length:=by
  induction f with
  | nil=>rfl
  | cons a t ih=>simp [sd,ih]
theorem Fh (c x a:R) (t:List R):fF (a :: t) x - fF (a :: t) c=(x - c)*fF (sd c t) x:=by
  induction t generalizing a with
  | nil=>simp only [fF,sd];grind
  | cons b t ih =>
    have:=ih b
    simp only [fF,sd] at *
    grind
theorem Ci (c:R) (f:List R) (h:∀ y ∈ sd c f,y=0):fF f c=0∧∀ y ∈ f,y=0:=by
  induction f with
  | nil=>exact ⟨rfl,by simp⟩
  | cons a t ih =>
    simp only [sd,List.mem_cons,forall_eq_or_imp] at h
    obtain ⟨i1,i2⟩:=ih h.2
    refine ⟨h.1,?_⟩
    have:a=0:=by
      have:=h.1
      simp only [fF] at this
      rw [i1] at this
      grind
    simp only [List.mem_cons,forall_eq_or_imp]
    exact ⟨this,i2⟩
/-- as many roots as coefficients: zero -/
theorem roots (nz:∀ a b:R,a*b=0→a=0 ∨ b=0):∀ (f xs:List R),xs.Nodup→f.length≤xs.length→(∀ x ∈ xs,fF f x=0)→∀ y ∈ f,y=0:=by
  intro f xs
  induction xs generalizing f with
  | nil=>intro _ h _;have:f=[]:=List.eq_nil_of_length_eq_zero (by simpa using h);subst this;simp
  | cons c xs ih =>
    intro hn hl h
    cases f with
    | nil=>simp
    | cons a t =>
      rw [List.nodup_cons] at hn
      have hc:fF (a :: t) c=0:=h c (by simp)
      have:=ih (sd c t) hn.2 (by rw [DZ];simpa using hl) (fun x hx=>by
        have e:=Fh c x a t
        rw [h x (by simp [hx]),hc] at e
        have e2:(x - c)*fF (sd c t) x=0:=by grind
        rcases nz _ _ e2 with g | g
        · exfalso;apply hn.1
          have:x=c:=by grind
          exact this ▸ hx
        · exact g)
      obtain ⟨i1,i2⟩:=Ci c t this
      have ha:a=0:=by
        simp only [fF] at hc
        rw [i1] at hc
        grind
      simp only [List.mem_cons,forall_eq_or_imp]
      exact ⟨ha,i2⟩
def cf (f:List R) (i:Nat):R:=f.getD i 0
def lM:List R→List R→List R
  | [],g=>g
  | f,[]=>f
  | a :: f,b :: g=>(a+b) :: lM f g
def uz (k:R) (f:List R):List R:=f.map (k*·)
def vC (f g:List R):List R:=lM f (uz (-1) g)
def vv:List R→List R→List R
  | [],_=>[]
  | a :: f,g=>lM (uz a g) (0 :: vv f g)
theorem na (f g:List R) (x:R):fF (lM f g) x=fF f x+fF g x:=by
  induction f,g using lM.induct with
  | case1 g=>simp only [lM,fF];grind
  | case2 f h=>cases f with
    | nil=>simp only [lM,fF];grind
    | cons a f=>simp only [lM,fF];grind
  | case3 a f b g ih=>simp only [lM,fF,ih];grind
theorem sx (k:R) (f:List R) (x:R):fF (uz k f) x=k*fF f x:=by
  unfold uz
  induction f with
  | nil=>simp only [List.map,fF];grind
  | cons a f ih=>simp only [List.map,fF,ih];grind
theorem vb (f g:List R) (x:R):fF (vC f g) x=fF f x - fF g x:=by
  unfold vC;rw [na,sx];grind
theorem yz (f g:List R) (x:R):fF (vv f g) x=fF f x*fF g x:=by
  induction f with
  | nil=>simp only [vv,fF];grind
  | cons a f ih=>simp only [vv,na,sx,fF,ih];grind
theorem qm (f g:List R):(lM f g).length=max f.length g.length:=by
  induction f,g using lM.induct with
  | case1 g=>simp [lM]
  | case2 f h=>cases f <;> simp [lM]
  | case3 a f b g ih=>simp [lM,ih]
theorem sR (k:R) (f:List R):(uz k f).length=f.length:=by simp [uz]
theorem zD (f g:List R):(vC f g).length=max f.length g.length:=by rw [vC,qm,sR]
theorem xZ (f g:List R) (h:1≤g.length):(vv f g).length≤f.length+g.length - 1:=by
  induction f with
  | nil=>simp [vv]
  | cons a f ih=>simp only [vv,qm,sR,List.length_cons];omega
theorem ub (i:Nat):cf ([]:List R) i=0:=by simp [cf]
theorem ud (a:R) (f:List R):cf (a :: f) 0=a:=by simp [cf]
theorem uc (a:R) (f:List R) (i:Nat):cf (a :: f) (i+1)=cf f i:=by simp [cf]
theorem wA (f g:List R) (i:Nat):cf (lM f g) i=cf f i+cf g i:=by
  induction f,g using lM.induct generalizing i with
  | case1 g=>simp only [lM,ub];grind
  | case2 f h=>cases f with
    | nil=>simp only [lM,ub];grind
    | cons a f=>simp only [lM,ub];grind
  | case3 a f b g ih=>cases i with
    | zero=>simp only [lM,ud]
    | succ i=>simp only [lM,uc,ih]
theorem Aq (k:R) (f:List R) (i:Nat):cf (uz k f) i=k*cf f i:=by
  unfold uz
  induction f generalizing i with
  | nil=>simp only [List.map,ub];grind
  | cons a f ih=>cases i with
    | zero=>simp only [List.map,ud]
    | succ i=>simp only [List.map,uc,ih]
theorem wB (f g:List R) (i:Nat):cf (vC f g) i=cf f i - cf g i:=by
  unfold vC;rw [wA,Aq];grind
theorem EG {f:List R} {i:Nat} (h:f.length≤i):cf f i=0:=by simp [cf,h]
theorem C3 {f:List R} (h:∀ y ∈ f,y=0) (i:Nat):cf f i=0:=by
  by_cases g:i < f.length
  · unfold cf;rw [List.getD_eq_getElem?_getD,List.getElem?_eq_getElem g];exact h _ (List.getElem_mem g)
  · exact EG (by omega)
/-- equal at enough places: equal coefficients -/
theorem xG (nz:∀ a b:R,a*b=0→a=0 ∨ b=0) {f g xs:List R} (hn:xs.Nodup) (hf:f.length≤xs.length) (hg:g.length≤xs.length) (h:∀ x ∈ xs,fF f x=fF g x) (i:Nat):cf f i=cf g i:=by
  have:=roots nz (vC f g) xs hn (by rw [zD];omega) (fun x hx=>by rw [vb,h x hx];grind)
  have:=C3 this i
  rw [wB] at this
  grind
theorem Aw {f:List R} (h:∀ i,cf f i=0) (x:R):fF f x=0:=by
  induction f with
  | nil=>rfl
  | cons a f ih =>
    have h0:=h 0
    rw [ud] at h0
    simp only [fF,h0,ih (fun i=>by have:=h (i+1);rwa [uc] at this)];grind
theorem tm {f g:List R} (h:∀ i,cf f i=cf g i) (x:R):fF f x=fF g x:=by
  have:=Aw (f:=vC f g) (fun i=>by rw [wB,h i];grind) x
  rw [vb] at this
  grind
end
end Sp

/- Elimination of Gauss and Jordan over a commutative ring: what it keeps. Plain Lean, no program. -/
set_option linter.unusedVariables false
namespace Sp
open Lean.Grind
section
variable {R:Type} [CommRing R]
def sm:Nat→(Nat→R)→R
  | 0,_=>0
  | n+1,f=>sm n f+f n
theorem fB {n:Nat} {f g:Nat→R} (h:∀ j,j < n→f j=g j):sm n f=sm n g:=by
  induction n with
  | zero=>rfl
  | succ n ih=>simp only [sm];rw [ih (fun j hj=>h j (by omega)),h n (by omega)]
theorem md {n:Nat} {f:Nat→R} (h:∀ j,j < n→f j=0):sm n f=0:=by
  induction n with
  | zero=>rfl
  | succ n ih=>simp only [sm];rw [ih (fun j hj=>h j (by omega)),h n (by omega)];grind
theorem zM {n:Nat} (f g:Nat→R):sm n (fun j=>f j+g j)=sm n f+sm n g:=by
  induction n with
  | zero=>simp only [sm];grind
  | succ n ih=>simp only [sm,ih];grind
theorem zO {n:Nat} (k:R) (f:Nat→R):sm n (fun j=>k*f j)=k*sm n f:=by
  induction n with
  | zero=>simp only [sm];grind
  | succ n ih=>simp only [sm,ih];grind
/-- one place more -/
theorem sQ {n c:Nat} (hc:c < n) (f g:Nat→R) (x:R) (hx:g c=x+f c) (h:∀ j,j < n→j≠c→g j=f j):sm n g=sm n f+x:=by
  induction n with
  | zero=>omega
  | succ n ih =>
    simp only [sm]
    by_cases e:c=n
    · subst e
      rw [fB (f:=g) (g:=f) (fun j hj=>h j (by omega) (by omega)),hx];grind
    · rw [ih (by omega) (fun j hj hne=>h j (by omega) hne),h n (by omega) (fun z=>e z.symm)];grind
def dot (n:Nat) (row v:Nat→R):R:=sm n (fun j=>row j*v j)
theorem Au {n:Nat} (a b v:Nat→R) (k:R):dot n (fun j=>a j+k*b j) v=dot n a v+k*dot n b v:=by
  unfold dot
  rw [← zO,← zM]
  exact fB fun j _=>by grind
theorem xD {n:Nat} (a v:Nat→R) (k:R):dot n (fun j=>k*a j) v=k*dot n a v:=by
  unfold dot
  rw [← zO]
  exact fB fun j _=>by grind
theorem j0 {n:Nat} {a b v:Nat→R} (h:∀ j,j < n→a j=b j):dot n a v=dot n b v:=fB fun j hj=>by rw [h j hj]
def Cv (h n:Nat) (M:Nat→Nat→R) (v:Nat→R):Prop:=∀ i,i < h→dot n (M i) v=M i n
structure qC (h n:Nat) (M0 M:Nat→Nat→R) (k:Nat) (piv:Nat→Nat) (c:Nat):Prop where
  sol:∀ v,Cv h n M0 v ↔ Cv h n M v
  len:k≤h
  lt:∀ r,r < k→piv r < c
  cn:c≤n
  unit:∀ r,r < k→∀ i,i < h→M i (piv r)=if i=r then 1 else 0
  low:∀ i,k≤i→i < h→∀ j,j < c→M i j=0
variable {h n k c:Nat} {M0 M M':Nat→Nat→R} {piv:Nat→Nat}
theorem qC.start:qC h n M0 M0 0 piv 0:=⟨fun _=>Iff.rfl,by omega,by omega,by omega,by omega,by omega⟩
theorem qC.congr (e:∀ i,i < h→∀ j,j≤n→M' i j=M i j) (r:qC h n M0 M k piv c):qC h n M0 M' k piv c:=by
  refine ⟨fun v=>(r.sol v).trans ?_,r.len,r.lt,r.cn,fun s hs i hi=>?_,fun i h1 h2 j hj=>?_⟩
  · constructor <;> intro g i hi
    · rw [j0 (b:=M i) (fun j hj=>e i hi j (by omega)),e i hi n (by omega)];exact g i hi
    · rw [← e i hi n (by omega),← j0 (a:=M' i) (fun j hj=>e i hi j (by omega))];exact g i hi
  · rw [e i hi _ (by have:=r.lt s hs;have:=r.cn;omega)];exact r.unit s hs i hi
  · rw [e i h2 _ (by have:=r.cn;omega)];exact r.low i h1 h2 j hj
theorem qC.skip (r:qC h n M0 M k piv c) (hc:c < n) (z:∀ i,k≤i→i < h→M i c=0):qC h n M0 M k piv (c+1) :=
  ⟨r.sol,r.len,fun s hs=>Nat.lt_succ_of_lt (r.lt s hs),hc,r.unit,fun i h1 h2 j hj=>by
    by_cases e:j=c
    · subst e;exact z i h1 h2
    · exact r.low i h1 h2 j (by omega)⟩
theorem qC.pivot (r:qC h n M0 M k piv c) (hc:c < n) (one:(1:R)≠0) {at_:Nat} (a1:k≤at_) (a2:at_ < h) {u:R} (hu:u*M at_ c=1) (hp:piv k=c)
    (hr:∀ j,j≤n→M' k j=u*M at_ j)
    (ho:∀ i,i < h→i≠k→∀ j,j≤n→M' i j=(if i=at_ then M k j else M i j) - (if i=at_ then M k c else M i c)*M' k j):qC h n M0 M' (k+1) piv (c+1):=by
  have kh:k < h:=by omega
  let S:Nat→Nat→R:=fun i=>if i=at_ then M k else if i=k then M at_ else M i
  have hS:∀ i,i < h→i≠k→∀ j,j≤n→M' i j=S i j - S i c*M' k j:=fun i h1 h2 j h3=>by
    rw [ho i h1 h2 j h3]
    by_cases e:i=at_
    · simp [S,e]
    · simp [S,e,h2]
  have hSk:∀ j,j≤n→M' k j=u*S k j:=fun j h3=>by
    rw [hr j h3]
    by_cases e:k=at_
    · simp [S,e]
    · simp [S,e]
  have hSc:u*S k c=1:=by
    by_cases e:k=at_
    · subst e;simpa [S] using hu
    · simpa [S,e] using hu
  have solS:∀ v,Cv h n M v ↔ Cv h n S v:=fun v=>by
    constructor <;> intro g i hi
    · by_cases e:i=at_
      · have:=g k kh;simpa [S,e] using this
      · by_cases e2:i=k
        · have:=g at_ a2
          subst e2;simpa [S,e] using this
        · have:=g i hi;simpa [S,e,e2] using this
    · by_cases e:i=at_
      · subst e
        by_cases e2:k=i
        · subst e2;have:=g k kh;simpa [S] using this
        · have:=g k kh;simpa [S,e2] using this
      · by_cases e2:i=k
        · subst e2;have:=g at_ a2;simpa [S] using this
        · have:=g i hi;simpa [S,e,e2] using this
  have lowS:∀ i,k≤i→i < h→∀ j,j < c→S i j=0:=fun i h1 h2 j hj=>by
    by_cases e:i=at_
    · simp only [S,if_pos e];exact r.low k (Nat.le_refl k) kh j hj
    · by_cases e2:i=k
      · simp only [S,if_neg e,if_pos e2];exact r.low at_ a1 a2 j hj
      · simp only [S,if_neg e,if_neg e2];exact r.low i h1 h2 j hj
  have unitS:∀ s,s < k→∀ i,i < h→S i (piv s)=if i=s then 1 else 0:=fun s hs i hi=>by
    by_cases e:i=at_
    · simp only [S,if_pos e];rw [r.unit s hs k kh,if_neg (by omega),if_neg (by omega)]
    · by_cases e2:i=k
      · simp only [S,if_neg e,if_pos e2];rw [r.unit s hs at_ a2,if_neg (by omega),if_neg (by omega)]
      · simp only [S,if_neg e,if_neg e2];exact r.unit s hs i hi
  have dk:∀ v,dot n (M' k) v=u*dot n (S k) v:=fun v=>by
    rw [j0 (b:=fun j=>u*S k j) (fun j hj=>hSk j (by omega)),xD]
  have di:∀ v i,i < h→i≠k→dot n (M' i) v=dot n (S i) v - S i c*dot n (M' k) v:=fun v i h1 h2=>by
    rw [j0 (b:=fun j=>S i j+(-(S i c))*M' k j) (fun j hj=>by rw [hS i h1 h2 j (by omega)];grind),Au];grind
  refine ⟨fun v=>((r.sol v).trans (solS v)).trans ?_,by omega,?_,by omega,?_,?_⟩
  · constructor
    · intro g i hi
      have g0:=g k kh
      by_cases e:i=k
      · subst e;rw [dk,hSk n (by omega),g0]
      · rw [di v i hi e,hS i hi e n (by omega),dk,g0,g i hi,hSk n (by omega)]
    · intro g
      have g0:=g k kh
      rw [dk,hSk n (by omega)] at g0
      have g1:dot n (S k) v=S k n:=by grind
      intro i hi
      by_cases e:i=k
      · subst e;exact g1
      · have g2:=g i hi
        rw [di v i hi e,hS i hi e n (by omega),g k kh] at g2
        grind
  · intro s hs
    by_cases e:s=k
    · subst e;omega
    · have:=r.lt s (by omega);omega
  · intro s hs i hi
    by_cases e:s=k
    · subst e
      rw [hp]
      by_cases e2:i=s
      · subst e2;rw [if_pos rfl,hSk c (by omega)];exact hSc
      · rw [if_neg e2,hS i hi e2 c (by omega),hSk c (by omega),hSc];grind
    · have hs2:s < k:=by omega
      have hl:=r.lt s hs2
      have hz:M' k (piv s)=0:=by
        rw [hSk _ (by omega),unitS s hs2 k kh,if_neg (by omega)];grind
      by_cases e2:i=k
      · subst e2;rw [if_neg (by omega)];exact hz
      · rw [hS i hi e2 _ (by omega),hz,unitS s hs2 i hi]
        split <;> grind
  · intro i h1 h2 j hj
    have e:i≠k:=by omega
    by_cases e3:j=c
    · subst e3
      rw [hS i h2 e j (by omega),hSk j (by omega),hSc];grind
    · rw [hS i h2 e j (by omega),hSk j (by omega),lowS i (by omega) h2 j (by omega),lowS k (by omega) kh j (by omega)];grind
/-- the solution that is read off: after s pivots -/
def Read (n:Nat) (M:Nat→Nat→R) (piv:Nat→Nat) (s:Nat) (out:Nat→R):Prop :=
  (∀ j,j < n→(∀ r,r < s→piv r≠j)→out j=0)∧∀ r,r < s→out (piv r)=M r n
theorem qC.distinct (r:qC h n M0 M k piv c) (one:(1:R)≠0) {a b:Nat} (ha:a < k) (hb:b < k) (e:piv a=piv b):a=b:=by
  apply Classical.byContradiction
  intro g
  have h1:=r.unit a ha a (by have:=r.len;omega)
  have h2:=r.unit b hb a (by have:=r.len;omega)
  rw [if_pos rfl] at h1
  rw [if_neg g,← e,h1] at h2
  exact one h2
theorem qC.read_sum (r:qC h n M0 M k piv c) (one:(1:R)≠0) (i:Nat) (hi:i < h):∀ (s:Nat) (out:Nat→R),s≤k→Read n M piv s out→dot n (M i) out=if i < s then M i n else 0:=by
  intro s
  induction s with
  | zero =>
    intro out _ hr
    rw [if_neg (by omega)]
    exact md fun j hj=>by rw [hr.1 j hj (by omega)];grind
  | succ s ih =>
    intro out hs hr
    have hps:piv s < n:=by have:=r.lt s (by omega);have:=r.cn;omega
    let o2:Nat→R:=fun j=>if j=piv s then 0 else out j
    have hr2:Read n M piv s o2:=by
      refine ⟨fun j hj hn=>?_,fun t ht=>?_⟩
      · by_cases e:j=piv s
        · simp [o2,e]
        · simp only [o2,if_neg e]
          refine hr.1 j hj fun t ht=>?_
          by_cases e2:t=s
          · subst e2;exact fun z=>e z.symm
          · exact hn t (by omega)
      · have:piv t≠piv s:=fun z=>by have:=r.distinct one (by omega) (by omega) z;omega
        simp only [o2,if_neg this]
        exact hr.2 t (by omega)
    have:=ih o2 (by omega) hr2
    unfold dot at this ⊢
    rw [sQ hps (fun j=>M i j*o2 j) (fun j=>M i j*out j) (M i (piv s)*M s n) (by simp only [o2,if_pos];rw [hr.2 s (by omega)];grind) (fun j hj hne=>by simp only [o2,if_neg hne]),this,r.unit s (by omega) i hi]
    by_cases e:i=s
    · subst e;rw [if_neg (by omega),if_pos rfl,if_pos (by omega)];grind
    · rw [if_neg e]
      by_cases e2:i < s
      · rw [if_pos e2,if_pos (by omega)];grind
      · rw [if_neg e2,if_neg (by omega)];grind
/-- the end: solved -/
theorem qC.solved (r:qC h n M0 M k piv n) (one:(1:R)≠0) {out:Nat→R} (hr:Read n M piv k out) (z:∀ i,k≤i→i < h→M i n=0):Cv h n M0 out:=by
  rw [r.sol]
  intro i hi
  rw [r.read_sum one i hi k out (Nat.le_refl k) hr]
  split
  · rfl
  · next g=>exact (z i (by omega) hi).symm
/-- the end: where there is a solution nothing is left over -/
theorem qC.rest (r:qC h n M0 M k piv n) {v:Nat→R} (hv:Cv h n M0 v) {i:Nat} (h1:k≤i) (h2:i < h):M i n=0:=by
  have:=(r.sol v).1 hv i h2
  rw [← this]
  exact md fun j hj=>by rw [r.low i h1 h2 j hj];grind
end
end Sp

/- The field of a supported prime: numbers below p as a commutative ring without zero divisors. Plain Lean, no program. -/
set_option linter.unusedVariables false
namespace Sp
open Lean.Grind
/-- a number modulo p -/
def o (p:Nat) [NeZero p] (n:Nat):Fin p:=Fin.ofNat p n
section
variable {p:Nat} [NeZero p]
theorem B6 {a b:Nat}:o p a=o p b ↔ a % p=b % p:=by
  constructor
  · intro h;exact congrArg Fin.val h
  · intro h;exact Fin.ext h
theorem rv {a:Nat}:o p (a % p)=o p a:=B6.2 (Nat.mod_mod a p)
theorem tx (a:Fin p):o p a.val=a:=Fin.ext (Nat.mod_eq_of_lt a.isLt)
theorem sG {a b:Nat} (ha:a < p) (hb:b < p) (h:o p a=o p b):a=b:=by
  rw [B6,Nat.mod_eq_of_lt ha,Nat.mod_eq_of_lt hb] at h;exact h
theorem zk {a b:Nat}:o p (a+b)=o p a+o p b:=by
  apply Fin.ext;simp [o,Fin.add_def]
theorem sH {a b:Nat}:o p (a*b)=o p a*o p b:=by
  apply Fin.ext;simp [o,Fin.mul_def,Nat.mul_mod]
theorem nG:o p 0=0:=by apply Fin.ext;simp [o]
theorem DJ:o p p=0:=by apply Fin.ext;simp [o]
theorem xl:o p 1=1:=rfl
theorem xk {a:Nat}:o p a=0 ↔ a % p=0:=by rw [← nG,B6,Nat.zero_mod]
theorem EV {a b:Nat} (h:b≤a):o p (a - b)=o p a - o p b:=by
  have:o p (a - b)+o p b=o p a:=by rw [← zk];congr 1;omega
  grind
end
theorem iq.ne {p:Nat} (h:iq p):NeZero p:=⟨by have:=h.lt;omega⟩
theorem iq.nz {p:Nat} [NeZero p] (h:iq p) (a b:Fin p) (e:a*b=0):a=0 ∨ b=0:=by
  rw [← tx a,← tx b,← sH,xk] at e
  rw [← tx a,← tx b,xk,xk]
  exact h.mul0 e
theorem iq.one {p:Nat} [NeZero p] (h:iq p):(1:Fin p)≠0:=by
  rw [← xl,← nG]
  intro e
  have:=h.lt
  have:=sG (by omega) (by omega) e
  omega
theorem iq.oinv {p a:Nat} [NeZero p] (h:iq p) (ha:a % p≠0):o p (Cc p a (p - 2))*o p a=1:=by
  rw [← sH,← xl,B6,Nat.mul_comm,h.inv ha,Nat.mod_eq_of_lt]
  have:=h.lt;omega
end Sp

/- The equations of Berlekamp and Welch: what a solution says, and that there is one. Plain Lean, no program. -/
set_option linter.unusedVariables false
namespace Sp
open Lean.Grind
section
variable {R:Type} [CommRing R]
end
end Sp

/- The folding of a product modulo a Mersenne prime ends. Plain Lean, no program. -/
set_option linter.unusedVariables false
namespace Sp
def C8 (h l:Nat):Nat:=if h=0 then l / 4 else 4611686018427387904+h
theorem C7 {p l:Nat} (hp:iq p) (hl:l < 18446744073709551616):l &&& p=fm p l:=by
  have:=hp.q
  unfold fm
  conv=>lhs;rw [this.1]
  exact Nat.and_two_pow_sub_one_eq_mod l (mL p)
theorem zb {p h l:Nat} (hp:iq p) (hh:h < 18446744073709551616) (hl:l < 18446744073709551616) (h0:h≠0):nh p h l < h:=by
  have hq:=hp.q
  have h1:=CF (h:=h) hp
  have h2:=CG (h:=h) hp hl
  have h3:=CH (p:=p) hl
  have hc:nc p h l≤1:=by unfold nc;omega
  unfold nh
  by_cases g:h=1
  · subst g
    have:nc p 1 l=0:=by
      unfold nc
      rw [Nat.div_eq_zero_iff]
      right
      have a1:fm p l < 2305843009213693952:=by
        unfold fm
        have:2 ^ mL p≤2 ^ 61:=Nat.pow_le_pow_right (by decide) hq.2.2
        have:=Nat.mod_lt l (Nat.two_pow_pos (mL p))
        omega
      have a2:fl p 1 l < 1152921504606846976:=by
        unfold fl
        have e1:l / 2 ^ mL p < 2 ^ (64 - mL p):=rc hl (by omega)
        have e2:1 % 2 ^ mL p≤1:=Nat.mod_le _ _
        have e3:2 ^ (64 - mL p)≤2 ^ 59:=Nat.pow_le_pow_right (by decide) (by omega)
        have e4:2 ^ (64 - mL p)*(1 % 2 ^ mL p)≤2 ^ (64 - mL p)*1:=Nat.mul_le_mul_left _ e2
        omega
      omega
    omega
  · omega
theorem ze {p l:Nat} (hp:iq p) (hl:l < 18446744073709551616) (h0:p < l):nh p 0 l=0∧nl p 0 l+31≤l:=by
  have hq:=hp.q
  have e:=vg (p:=p) (h:=0) (l:=l) hp
  rw [Nat.zero_mul,Nat.zero_add] at e
  have hle:=hp.lt
  have hP:2 ^ mL p=p+1:=by have:=Nat.two_pow_pos (mL p);omega
  rw [hP] at e
  have d:=Nat.div_add_mod l (p+1)
  have hk:1≤l / (p+1):=(Nat.le_div_iff_mul_le (by omega)).2 (by omega)
  have:l / (p+1)+31≤(p+1)*(l / (p+1)):=by
    have:=Nat.mul_le_mul_right (l / (p+1)) (show 32≤p+1 by omega)
    omega
  have hs:nh p 0 l*18446744073709551616+nl p 0 l+31≤l:=by omega
  constructor
  · apply Classical.byContradiction
    intro g
    have:1≤nh p 0 l:=by omega
    have:=Nat.mul_le_mul_right 18446744073709551616 this
    omega
  · omega
theorem AB {p h l:Nat} (hp:iq p) (hh:h < 4611686018427387904) (hl:l < 18446744073709551616) (c:h≠0 ∨ p < l):C8 (nh p h l) (nl p h l) < C8 h l:=by
  by_cases h0:h=0
  · subst h0
    have:=ze hp hl (by omega)
    unfold C8
    rw [if_pos this.1,if_pos rfl];omega
  · have:=zb hp (by omega) hl h0
    have h3:=CM (p:=p) (h:=h) (l:=l)
    unfold C8
    rw [if_neg h0]
    split <;> omega
theorem C9 {h l:Nat} (hh:h < 4611686018427387904) (hl:l < 18446744073709551616):C8 h l < 18446744073709551616:=by
  unfold C8;split <;> omega
end Sp
