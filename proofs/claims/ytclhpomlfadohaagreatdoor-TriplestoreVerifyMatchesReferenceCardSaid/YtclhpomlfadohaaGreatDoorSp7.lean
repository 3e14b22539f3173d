/- Prime numbers: Fermat's little theorem, and that the seven supported numbers are prime. Plain Lean, no program. -/
import Derived.Test.YtclhpomlfadohaaGreatDoorSp2
set_option linter.unusedVariables false
namespace Sp
theorem getD_set {β : Type} {l : List β} {i j : Nat} {v d : β} (h : i < l.length) : (l.set i v).getD j d = if i = j then v else l.getD j d := by
  rw [List.getD_eq_getElem?_getD, List.getD_eq_getElem?_getD, List.getElem?_set]
  split
  · rename_i e; subst e; simp
  · rfl
def Pr (p : Nat) : Prop := 2 ≤ p ∧ ∀ d, d ∣ p → d = 1 ∨ d = p
theorem Pr.mul {p a b : Nat} (hp : Pr p) (h : p ∣ a * b) : p ∣ a ∨ p ∣ b := by
  rcases hp.2 _ (Nat.gcd_dvd_left p a) with g | g
  · right
    exact Nat.Coprime.dvd_of_dvd_mul_left (show Nat.Coprime p a from g) h
  · left
    rw [← g]; exact Nat.gcd_dvd_right p a
theorem perm_of_sub {l1 : List Nat} : ∀ {l2 : List Nat}, l1.Nodup → (∀ x ∈ l1, x ∈ l2) → l1.length = l2.length → l1.Perm l2 := by
  induction l1 with
  | nil => intro l2 _ _ hl; have : l2 = [] := List.eq_nil_of_length_eq_zero hl.symm; subst this; exact List.Perm.refl _
  | cons x t ih =>
    intro l2 hn hs hl
    have hx : x ∈ l2 := hs x (by simp)
    have hp := List.perm_cons_erase hx
    have hl2 := hp.length_eq
    rw [List.nodup_cons] at hn
    have := ih (l2 := l2.erase x) hn.2 (fun y hy => by
      have hy2 : y ∈ l2 := hs y (by simp [hy])
      have hne : y ≠ x := fun e => hn.1 (e ▸ hy)
      exact (List.mem_erase_of_ne hne).2 hy2) (by simp at hl hl2; omega)
    exact (List.Perm.cons x this).trans hp.symm
def prod (l : List Nat) : Nat := l.foldr (· * ·) 1
theorem prod_perm {a b : List Nat} (h : a.Perm b) : prod a = prod b := by
  induction h with
  | nil => rfl
  | cons x _ ih => simp only [prod, List.foldr_cons] at *; rw [ih]
  | swap x y l => simp only [prod, List.foldr_cons]; exact Nat.mul_left_comm ..
  | trans _ _ h1 h2 => exact h1.trans h2
theorem prod_map {p a : Nat} (l : List Nat) : prod (l.map (fun x => a * x % p)) % p = a ^ l.length * prod l % p := by
  induction l with
  | nil => simp [prod]
  | cons x t ih =>
    simp only [prod, List.map_cons, List.foldr_cons, List.length_cons] at *
    rw [Nat.mul_mod, ih, Nat.mod_mod, ← Nat.mul_mod, Nat.pow_succ]
    congr 1
    rw [Nat.mul_assoc, Nat.mul_assoc, Nat.mul_left_comm x, Nat.mul_left_comm a]
theorem prod_not {p : Nat} (hp : Pr p) {l : List Nat} (h : ∀ x ∈ l, ¬ p ∣ x) : ¬ p ∣ prod l := by
  induction l with
  | nil => intro d; have := Nat.le_of_dvd (by decide) d; have := hp.1; simp [prod] at *; omega
  | cons x t ih =>
    intro d
    rcases hp.mul (show p ∣ x * prod t from d) with g | g
    · exact h x (by simp) g
    · exact ih (fun y hy => h y (by simp [hy])) g
theorem sub_dvd {p x y : Nat} (h : x % p = y % p) (hxy : x ≤ y) : p ∣ y - x := by
  have := Nat.sub_mod_eq_zero_of_mod_eq (h.symm)
  exact Nat.dvd_of_mod_eq_zero this
theorem fermat {p a : Nat} (hp : Pr p) (ha : ¬ p ∣ a) : a ^ (p - 1) % p = 1 := by
  have h2 := hp.1
  let l := (List.range (p - 1)).map (· + 1)
  have hm : ∀ x, x ∈ l ↔ 1 ≤ x ∧ x < p := fun x => by
    simp only [l, List.mem_map, List.mem_range]
    constructor
    · rintro ⟨y, hy, rfl⟩; omega
    · rintro ⟨h1, h3⟩; exact ⟨x - 1, by omega, by omega⟩
  have hl : l.length = p - 1 := by simp [l]
  have hnd : ∀ x ∈ l, ¬ p ∣ x := fun x hx d => by
    have := (hm x).1 hx
    have := Nat.le_of_dvd (by omega) d
    omega
  have hlt : ∀ x, a * x % p < p := fun x => Nat.mod_lt _ (by omega)
  have inj : ∀ x ∈ l, ∀ y ∈ l, x ≤ y → a * x % p = a * y % p → x = y := fun x hx y hy hxy e => by
    have d := sub_dvd e (Nat.mul_le_mul_left a hxy)
    rw [← Nat.mul_sub] at d
    rcases hp.mul d with g | g
    · exact absurd g ha
    · have hx1 := (hm x).1 hx
      have hy1 := (hm y).1 hy
      rcases Nat.eq_zero_or_pos (y - x) with z | z
      · omega
      · have := Nat.le_of_dvd z g
        omega
  have hperm : (l.map (fun x => a * x % p)).Perm l := by
    apply perm_of_sub
    · have hnl : l.Nodup := by
        apply List.Pairwise.map (R := fun a b => a ≠ b)
        · intro a b h; omega
        · exact List.nodup_range
      rw [List.Nodup, List.pairwise_map]
      refine List.Pairwise.imp_of_mem ?_ hnl
      intro x y hx hy hne e
      rcases Nat.le_total x y with g | g
      · exact hne (inj x hx y hy g e)
      · exact hne (inj y hy x hx g e.symm).symm
    · intro z hz
      obtain ⟨x, hx, rfl⟩ := List.mem_map.1 hz
      refine (hm _).2 ⟨?_, hlt x⟩
      rcases Nat.eq_zero_or_pos (a * x % p) with z | z
      · exfalso
        rcases hp.mul (Nat.dvd_of_mod_eq_zero z) with g | g
        · exact ha g
        · exact hnd x hx g
      · exact z
    · simp
  have e := prod_map (p := p) (a := a) l
  rw [prod_perm hperm, hl] at e
  have hq := prod_not hp hnd
  generalize prod l = P at e hq
  have ha0 : 0 < a := by
    rcases Nat.eq_zero_or_pos a with z | z
    · exact absurd (z ▸ Nat.dvd_zero p) ha
    · exact z
  have h1 : 0 < a ^ (p - 1) := Nat.pow_pos ha0
  generalize a ^ (p - 1) = A at e h1
  have d := sub_dvd e (Nat.le_mul_of_pos_left P h1)
  have d2 : p ∣ (A - 1) * P := by rw [Nat.sub_mul, Nat.one_mul]; exact d
  rcases hp.mul d2 with g | g
  · obtain ⟨k, hk⟩ := g
    have : A = 1 + p * k := by omega
    rw [this, Nat.add_mul_mod_self_left]
    exact Nat.mod_eq_of_lt (by omega)
  · exact absurd g hq
/-- the least divisor that is not 1 is prime -/
theorem least {n : Nat} (h : 2 ≤ n) : ∃ r, Pr r ∧ r ∣ n := by
  induction n using Nat.strongRecOn with
  | _ n ih =>
    by_cases hp : ∀ d, d ∣ n → d = 1 ∨ d = n
    · exact ⟨n, ⟨h, hp⟩, Nat.dvd_refl n⟩
    · have : ∃ d, d ∣ n ∧ d ≠ 1 ∧ d ≠ n := by
        apply Classical.byContradiction
        intro g
        apply hp
        intro d hd
        by_cases h1 : d = 1
        · exact Or.inl h1
        · by_cases h2 : d = n
          · exact Or.inr h2
          · exact absurd ⟨d, hd, h1, h2⟩ g
      obtain ⟨d, hd, h1, h2⟩ := this
      have hle := Nat.le_of_dvd (by omega) hd
      have h0 : d ≠ 0 := fun z => by subst z; have := Nat.eq_zero_of_zero_dvd hd; omega
      obtain ⟨r, hr, hrd⟩ := ih d (by omega) (by omega)
      exact ⟨r, hr, Nat.dvd_trans hrd hd⟩
/-- prime, if nothing up to a bound divides -/
theorem pr_of {p b : Nat} (h2 : 2 ≤ p) (hb : p < b * b) (h : ∀ d, 2 ≤ d → d < b → ¬ d ∣ p) : Pr p := by
  refine ⟨h2, fun d hd => ?_⟩
  by_cases h1 : d = 1
  · exact Or.inl h1
  right
  obtain ⟨e, he⟩ := hd
  have hd0 : d ≠ 0 := fun z => by subst z; omega
  by_cases hdb : d < b
  · exact absurd ⟨e, he⟩ (h d (by omega) hdb)
  · have heb : e < b := by
      apply Classical.byContradiction
      intro g
      have := Nat.mul_le_mul (show b ≤ d by omega) (show b ≤ e by omega)
      omega
    by_cases he1 : e = 1
    · subst he1; omega
    · have he0 : e ≠ 0 := fun z => by subst z; omega
      exact absurd ⟨d, by rw [Nat.mul_comm]; exact he⟩ (h e (by omega) heb)
/-- nothing from d on, n numbers, divides p -/
def noDiv (p : Nat) : Nat → Nat → Bool
  | 0, _ => true
  | n + 1, d => (p % d != 0) && noDiv p n (d + 1)
theorem noDiv_ok {p : Nat} : ∀ {n d}, noDiv p n d = true → ∀ e, d ≤ e → e < d + n → ¬ e ∣ p := by
  intro n
  induction n with
  | zero => intro d _ e h1 h2; omega
  | succ n ih =>
    intro d h e h1 h2 hd
    simp only [noDiv, Bool.and_eq_true, bne_iff_ne] at h
    by_cases g : e = d
    · subst g; exact h.1 (Nat.mod_eq_zero_of_dvd hd)
    · exact ih h.2 e (by omega) (by omega) hd
theorem pr_noDiv {p n : Nat} (h2 : 2 ≤ p) (hb : p < (n + 2) * (n + 2)) (h : noDiv p n 2 = true) : Pr p :=
  pr_of (b := n + 2) h2 hb fun d h3 h4 => noDiv_ok h d h3 (by omega)
theorem ord {r b m : Nat} : ∀ {n}, b ^ m % r = 1 → b ^ n % r = 1 → b ^ (n % m) % r = 1 := by
  intro n hm hn
  have : n = m * (n / m) + n % m := (Nat.div_add_mod n m).symm
  rw [this, Nat.pow_add, Nat.pow_mul, Nat.mul_mod, Nat.pow_mod, hm] at hn
  by_cases hr : r = 0
  · subst hr; simp at *; exact hn
  by_cases hr1 : r = 1
  · subst hr1; omega
  · rw [Nat.one_pow, Nat.mod_eq_of_lt (show 1 < r by omega), Nat.one_mul, Nat.mod_mod] at hn
    exact hn
theorem ord_gcd {r b : Nat} : ∀ m n, b ^ m % r = 1 → b ^ n % r = 1 → b ^ (Nat.gcd m n) % r = 1 := by
  intro m n
  induction m, n using Nat.gcd.induction with
  | H0 n => intro _ h; simpa using h
  | H1 m n hm ih => intro h1 h2; rw [Nat.gcd_rec]; exact ih (ord h1 h2) h1
/-- Pocklington: a prime divisor is 1 modulo q -/
theorem pock {p r q b : Nat} (hr : Pr r) (hd : r ∣ p) (hq : Pr q) (h1 : b ^ q % p = 1) (h2 : Nat.gcd (b - 1) p = 1) (hp : 2 ≤ p) (hb : 0 < b) : q ∣ r - 1 := by
  have hr2 := hr.1
  have e1 : b ^ q % r = 1 := by
    rw [← Nat.mod_mod_of_dvd _ hd, h1]; exact Nat.mod_eq_of_lt (by omega)
  have hnb : ¬ r ∣ b := fun g => by
    have : b ^ q % r = 0 := Nat.mod_eq_zero_of_dvd (by
      have hq0 : q ≠ 0 := by have := hq.1; omega
      exact Nat.dvd_trans g (Nat.dvd_of_mod_eq_zero (by
        obtain ⟨k, rfl⟩ := Nat.exists_eq_succ_of_ne_zero hq0
        rw [Nat.pow_succ]; exact Nat.mul_mod_left _ _)))
    omega
  have e2 := fermat hr hnb
  have e3 := ord_gcd q (r - 1) e1 e2
  rcases hq.2 _ (Nat.gcd_dvd_left q (r - 1)) with g | g
  · exfalso
    rw [g, Nat.pow_one] at e3
    have : r ∣ b - 1 := sub_dvd (x := 1) (y := b) (by rw [e3]; exact Nat.mod_eq_of_lt (by omega)) hb
    have := Nat.dvd_gcd this hd
    rw [h2] at this
    have := Nat.le_of_dvd (by decide) this
    omega
  · rw [← g]; exact Nat.gcd_dvd_right _ _
/-- powers modulo p by squaring; k squarings at most -/
def pm (p : Nat) : Nat → Nat → Nat → Nat → Nat
  | 0, _, _, o => o
  | k + 1, a, n, o => if n = 0 then o else pm p k (a * a % p) (n / 2) (if n % 2 = 1 then o * a % p else o)
theorem pm_ok {p : Nat} : ∀ {k a n o}, n < 2 ^ k → o < p → pm p k a n o = o * a ^ n % p := by
  intro k
  induction k with
  | zero => intro a n o h ho; have : n = 0 := by simpa using h
            subst this; simp [pm, Nat.mod_eq_of_lt ho]
  | succ k ih =>
    intro a n o h ho
    simp only [pm]
    split
    · next z => subst z; simp [Nat.mod_eq_of_lt ho]
    · have hn : n / 2 < 2 ^ k := by rw [Nat.pow_succ] at h; omega
      have hp0 : 0 < p := by omega
      by_cases h1 : n % 2 = 1
      · rw [if_pos h1, ih hn (Nat.mod_lt _ hp0)]
        have e : a ^ n = a * (a * a) ^ (n / 2) := by
          have : n = 1 + 2 * (n / 2) := by omega
          rw [this, Nat.pow_add, Nat.pow_mul, Nat.pow_one, Nat.pow_two]
          congr 3
        rw [e, Nat.mul_mod, Nat.mod_mod, Nat.pow_mod, Nat.mod_mod, ← Nat.pow_mod, ← Nat.mul_mod, Nat.mul_assoc]
      · rw [if_neg h1, ih hn ho]
        have e : a ^ n = (a * a) ^ (n / 2) := by
          have : n = 2 * (n / 2) := by omega
          rw [this, Nat.pow_mul, Nat.pow_two]
          congr 2
        rw [e, Nat.mul_mod, Nat.pow_mod, Nat.mod_mod, ← Nat.pow_mod, ← Nat.mul_mod]
theorem pr31 : Pr 31 := pr_noDiv (n := 4) (by decide) (by decide) (by decide)
theorem pr127 : Pr 127 := pr_noDiv (n := 10) (by decide) (by decide) (by decide)
theorem pr8191 : Pr 8191 := pr_noDiv (n := 89) (by decide) (by decide) (by decide +kernel)
theorem pr131071 : Pr 131071 := pr_noDiv (n := 361) (by decide) (by decide) (by decide +kernel)
theorem pr524287 : Pr 524287 := pr_noDiv (n := 723) (by decide) (by decide) (by decide +kernel)
theorem pr2147483647 : Pr 2147483647 := pr_noDiv (n := 46339) (by decide) (by decide) (by decide +kernel)
theorem pr61 : Pr 61 := pr_noDiv (n := 6) (by decide) (by decide) (by decide)
theorem pr151 : Pr 151 := pr_noDiv (n := 11) (by decide) (by decide) (by decide)
theorem pr331 : Pr 331 := pr_noDiv (n := 17) (by decide) (by decide) (by decide)
theorem pr1321 : Pr 1321 := pr_noDiv (n := 35) (by decide) (by decide) (by decide +kernel)
def M61 : Nat := 2305843009213693951
theorem pock61 {r q : Nat} (hr : Pr r) (hd : r ∣ M61) (hq : Pr q) (h1 : pm M61 62 37 (M61 - 1) 1 = 1) (hm : (M61 - 1) / q * q = M61 - 1) (h2 : Nat.gcd (pm M61 62 37 ((M61 - 1) / q) 1 - 1) M61 = 1) (h3 : 0 < pm M61 62 37 ((M61 - 1) / q) 1) (h4 : (M61 - 1) / q < 2 ^ 62) : q ∣ r - 1 := by
  have e1 : 37 ^ (M61 - 1) % M61 = 1 := by rw [pm_ok (by decide) (by decide), Nat.one_mul] at h1; exact h1
  refine pock (b := pm M61 62 37 ((M61 - 1) / q) 1) hr hd hq ?_ h2 (by decide) h3
  rw [pm_ok h4 (by decide), Nat.one_mul, Nat.pow_mod, Nat.mod_mod, ← Nat.pow_mod, ← Nat.pow_mul, hm]
  exact e1
theorem big61 {r : Nat} (hr : Pr r) (hd : r ∣ M61) : 4027518961 < r := by
  have a1 := pock61 hr hd pr61 (by decide +kernel) (by decide +kernel) (by decide +kernel) (by decide +kernel) (by decide +kernel)
  have a2 := pock61 hr hd pr151 (by decide +kernel) (by decide +kernel) (by decide +kernel) (by decide +kernel) (by decide +kernel)
  have a3 := pock61 hr hd pr331 (by decide +kernel) (by decide +kernel) (by decide +kernel) (by decide +kernel) (by decide +kernel)
  have a4 := pock61 hr hd pr1321 (by decide +kernel) (by decide +kernel) (by decide +kernel) (by decide +kernel) (by decide +kernel)
  have b1 := Nat.Coprime.mul_dvd_of_dvd_of_dvd (show Nat.Coprime 61 151 by decide) a1 a2
  have b2 := Nat.Coprime.mul_dvd_of_dvd_of_dvd (show Nat.Coprime (61 * 151) 331 by decide) b1 a3
  have b3 := Nat.Coprime.mul_dvd_of_dvd_of_dvd (show Nat.Coprime (61 * 151 * 331) 1321 by decide) b2 a4
  have h2 := hr.1
  clear a1 a2 a3 a4 b1 b2 hd hr
  have h3 : 0 < r - 1 := by omega
  have h4 := Nat.le_of_dvd h3 b3
  clear b3
  omega
theorem prM61 : Pr M61 := by
  refine ⟨by decide, fun d hd => ?_⟩
  by_cases h1 : d = 1
  · exact Or.inl h1
  right
  obtain ⟨e, he⟩ := hd
  have hM : M61 = 2305843009213693951 := rfl
  have hd0 : d ≠ 0 := fun z => by subst z; omega
  have he0 : e ≠ 0 := fun z => by subst z; omega
  by_cases he1 : e = 1
  · subst he1; omega
  obtain ⟨r, hr, hrd⟩ := least (n := d) (by omega)
  obtain ⟨t, ht, htd⟩ := least (n := e) (by omega)
  have g1 := big61 hr (Nat.dvd_trans hrd ⟨e, he⟩)
  have g2 := big61 ht (Nat.dvd_trans htd ⟨d, by rw [Nat.mul_comm]; exact he⟩)
  have g3 := Nat.le_of_dvd (by omega) hrd
  have g4 := Nat.le_of_dvd (by omega) htd
  have := Nat.mul_le_mul (show 4027518961 ≤ d by omega) (show 4027518961 ≤ e by omega)
  omega
theorem Sup.pr {p : Nat} (h : Sup p) : Pr p := by
  rcases h with rfl | rfl | rfl | rfl | rfl | rfl | rfl
  · exact pr31
  · exact pr127
  · exact pr8191
  · exact pr131071
  · exact pr524287
  · exact pr2147483647
  · exact prM61
theorem Sup.inv {p a : Nat} (h : Sup p) (ha : a % p ≠ 0) : a * pow p a (p - 2) % p = 1 := by
  have h1 := h.lt
  have := fermat h.pr (fun d => ha (Nat.mod_eq_zero_of_dvd d))
  unfold pow
  rw [Nat.mul_mod, Nat.mod_mod, ← Nat.mul_mod, ← Nat.pow_succ']
  rw [show (p - 2).succ = p - 1 by omega]; exact this
theorem Sup.mul0 {p a b : Nat} (h : Sup p) (e : a * b % p = 0) : a % p = 0 ∨ b % p = 0 := by
  rcases h.pr.mul (Nat.dvd_of_mod_eq_zero e) with g | g
  · exact Or.inl (Nat.mod_eq_zero_of_dvd g)
  · exact Or.inr (Nat.mod_eq_zero_of_dvd g)
end Sp
