/- Polynomials as lists over a commutative ring without zero divisors: evaluation, product, root counting. Plain Lean, no program. -/
import Derived.Test.YtclhpomlfadohaaGreatDoorSp7
set_option linter.unusedVariables false
namespace Sp
open Lean.Grind
section
variable {R : Type} [CommRing R]
def evl : List R → R → R
  | [], _ => 0
  | a :: t, x => a + x * evl t x
/-- the quotient by x - c, of the tail -/
def sd (c : R) : List R → List R
  | [] => []
  | a :: t => evl (a :: t) c :: sd c t
theorem sd_len (c : R) (f : List R) : (sd c f).length = f.length := by
  induction f with
  | nil => rfl
  | cons a t ih => simp [sd, ih]
theorem sd_ok (c x a : R) (t : List R) : evl (a :: t) x - evl (a :: t) c = (x - c) * evl (sd c t) x := by
  induction t generalizing a with
  | nil => simp only [evl, sd]; grind
  | cons b t ih =>
    have := ih b
    simp only [evl, sd] at *
    grind
theorem sd_zero (c : R) (f : List R) (h : ∀ y ∈ sd c f, y = 0) : evl f c = 0 ∧ ∀ y ∈ f, y = 0 := by
  induction f with
  | nil => exact ⟨rfl, by simp⟩
  | cons a t ih =>
    simp only [sd, List.mem_cons, forall_eq_or_imp] at h
    obtain ⟨i1, i2⟩ := ih h.2
    refine ⟨h.1, ?_⟩
    have : a = 0 := by
      have := h.1
      simp only [evl] at this
      rw [i1] at this
      grind
    simp only [List.mem_cons, forall_eq_or_imp]
    exact ⟨this, i2⟩
/-- as many roots as coefficients: zero -/
theorem roots (nz : ∀ a b : R, a * b = 0 → a = 0 ∨ b = 0) : ∀ (f xs : List R), xs.Nodup → f.length ≤ xs.length → (∀ x ∈ xs, evl f x = 0) → ∀ y ∈ f, y = 0 := by
  intro f xs
  induction xs generalizing f with
  | nil => intro _ h _; have : f = [] := List.eq_nil_of_length_eq_zero (by simpa using h); subst this; simp
  | cons c xs ih =>
    intro hn hl h
    cases f with
    | nil => simp
    | cons a t =>
      rw [List.nodup_cons] at hn
      have hc : evl (a :: t) c = 0 := h c (by simp)
      have := ih (sd c t) hn.2 (by rw [sd_len]; simpa using hl) (fun x hx => by
        have e := sd_ok c x a t
        rw [h x (by simp [hx]), hc] at e
        have e2 : (x - c) * evl (sd c t) x = 0 := by grind
        rcases nz _ _ e2 with g | g
        · exfalso; apply hn.1
          have : x = c := by grind
          exact this ▸ hx
        · exact g)
      obtain ⟨i1, i2⟩ := sd_zero c t this
      have ha : a = 0 := by
        simp only [evl] at hc
        rw [i1] at hc
        grind
      simp only [List.mem_cons, forall_eq_or_imp]
      exact ⟨ha, i2⟩
def cf (f : List R) (i : Nat) : R := f.getD i 0
def padd : List R → List R → List R
  | [], g => g
  | f, [] => f
  | a :: f, b :: g => (a + b) :: padd f g
def smul (k : R) (f : List R) : List R := f.map (k * ·)
def psub (f g : List R) : List R := padd f (smul (-1) g)
def pmul : List R → List R → List R
  | [], _ => []
  | a :: f, g => padd (smul a g) (0 :: pmul f g)
theorem evl_padd (f g : List R) (x : R) : evl (padd f g) x = evl f x + evl g x := by
  induction f, g using padd.induct with
  | case1 g => simp only [padd, evl]; grind
  | case2 f h => cases f with
    | nil => simp only [padd, evl]; grind
    | cons a f => simp only [padd, evl]; grind
  | case3 a f b g ih => simp only [padd, evl, ih]; grind
theorem evl_smul (k : R) (f : List R) (x : R) : evl (smul k f) x = k * evl f x := by
  unfold smul
  induction f with
  | nil => simp only [List.map, evl]; grind
  | cons a f ih => simp only [List.map, evl, ih]; grind
theorem evl_psub (f g : List R) (x : R) : evl (psub f g) x = evl f x - evl g x := by
  unfold psub; rw [evl_padd, evl_smul]; grind
theorem evl_pmul (f g : List R) (x : R) : evl (pmul f g) x = evl f x * evl g x := by
  induction f with
  | nil => simp only [pmul, evl]; grind
  | cons a f ih => simp only [pmul, evl_padd, evl_smul, evl, ih]; grind
theorem padd_len (f g : List R) : (padd f g).length = max f.length g.length := by
  induction f, g using padd.induct with
  | case1 g => simp [padd]
  | case2 f h => cases f <;> simp [padd]
  | case3 a f b g ih => simp [padd, ih]
theorem smul_len (k : R) (f : List R) : (smul k f).length = f.length := by simp [smul]
theorem psub_len (f g : List R) : (psub f g).length = max f.length g.length := by rw [psub, padd_len, smul_len]
theorem pmul_len (f g : List R) : (pmul f g).length ≤ f.length + g.length := by
  induction f with
  | nil => simp [pmul]
  | cons a f ih => simp only [pmul, padd_len, smul_len, List.length_cons]; omega
theorem pmul_len1 (f g : List R) (h : 1 ≤ g.length) : (pmul f g).length ≤ f.length + g.length - 1 := by
  induction f with
  | nil => simp [pmul]
  | cons a f ih => simp only [pmul, padd_len, smul_len, List.length_cons]; omega
theorem cf_nil (i : Nat) : cf ([] : List R) i = 0 := by simp [cf]
theorem cf_zero (a : R) (f : List R) : cf (a :: f) 0 = a := by simp [cf]
theorem cf_succ (a : R) (f : List R) (i : Nat) : cf (a :: f) (i + 1) = cf f i := by simp [cf]
theorem cf_padd (f g : List R) (i : Nat) : cf (padd f g) i = cf f i + cf g i := by
  induction f, g using padd.induct generalizing i with
  | case1 g => simp only [padd, cf_nil]; grind
  | case2 f h => cases f with
    | nil => simp only [padd, cf_nil]; grind
    | cons a f => simp only [padd, cf_nil]; grind
  | case3 a f b g ih => cases i with
    | zero => simp only [padd, cf_zero]
    | succ i => simp only [padd, cf_succ, ih]
theorem cf_smul (k : R) (f : List R) (i : Nat) : cf (smul k f) i = k * cf f i := by
  unfold smul
  induction f generalizing i with
  | nil => simp only [List.map, cf_nil]; grind
  | cons a f ih => cases i with
    | zero => simp only [List.map, cf_zero]
    | succ i => simp only [List.map, cf_succ, ih]
theorem cf_psub (f g : List R) (i : Nat) : cf (psub f g) i = cf f i - cf g i := by
  unfold psub; rw [cf_padd, cf_smul]; grind
theorem cf_ge {f : List R} {i : Nat} (h : f.length ≤ i) : cf f i = 0 := by simp [cf, h]
theorem cf_mem {f : List R} (h : ∀ y ∈ f, y = 0) (i : Nat) : cf f i = 0 := by
  by_cases g : i < f.length
  · unfold cf; rw [List.getD_eq_getElem?_getD, List.getElem?_eq_getElem g]; exact h _ (List.getElem_mem g)
  · exact cf_ge (by omega)
/-- the coefficients above, and the top one, of a product -/
theorem cf_pmul_top (f g : List R) (a b : Nat) (hf : ∀ i, a < i → cf f i = 0) (hg : ∀ j, b < j → cf g j = 0) : cf (pmul f g) (a + b) = cf f a * cf g b ∧ ∀ k, a + b < k → cf (pmul f g) k = 0 := by
  induction f generalizing a with
  | nil => simp only [pmul, cf_nil]; exact ⟨by grind, fun _ _ => trivial⟩
  | cons c f ih =>
    cases a with
    | zero =>
      have hf0 : ∀ y ∈ f, y = 0 := by
        intro y hy
        obtain ⟨i, hi, rfl⟩ := List.getElem_of_mem hy
        have := hf (i + 1) (by omega)
        rw [cf_succ] at this
        unfold cf at this
        rwa [List.getD_eq_getElem?_getD, List.getElem?_eq_getElem hi] at this
      have hz : ∀ k, cf (pmul f g) k = 0 := by
        clear ih hf
        induction f with
        | nil => intro k; simp only [pmul, cf_nil]
        | cons d f ih2 =>
          intro k
          simp only [List.mem_cons, forall_eq_or_imp] at hf0
          simp only [pmul, cf_padd, cf_smul, hf0.1]
          cases k with
          | zero => rw [cf_zero]; grind
          | succ k => rw [cf_succ, ih2 hf0.2]; grind
      refine ⟨?_, fun k hk => ?_⟩
      · simp only [pmul, cf_padd, cf_smul, cf_zero, Nat.zero_add]
        cases b with
        | zero => rw [cf_zero]; grind
        | succ b => rw [cf_succ, hz]; grind
      · simp only [pmul, cf_padd, cf_smul]
        rw [hg k (by omega)]
        cases k with
        | zero => omega
        | succ k => rw [cf_succ, hz]; grind
    | succ a =>
      obtain ⟨i1, i2⟩ := ih a (fun i hi => by have := hf (i + 1) (by omega); rwa [cf_succ] at this)
      refine ⟨?_, fun k hk => ?_⟩
      · simp only [pmul, cf_padd, cf_smul, cf_succ]
        rw [hg (a + 1 + b) (by omega), show a + 1 + b = (a + b) + 1 by omega, cf_succ, i1]; grind
      · simp only [pmul, cf_padd, cf_smul]
        rw [hg k (by omega)]
        cases k with
        | zero => omega
        | succ k => rw [cf_succ, i2 k (by omega)]; grind
/-- equal at enough places: equal coefficients -/
theorem eq_of_evl (nz : ∀ a b : R, a * b = 0 → a = 0 ∨ b = 0) {f g xs : List R} (hn : xs.Nodup) (hf : f.length ≤ xs.length) (hg : g.length ≤ xs.length) (h : ∀ x ∈ xs, evl f x = evl g x) (i : Nat) : cf f i = cf g i := by
  have := roots nz (psub f g) xs hn (by rw [psub_len]; omega) (fun x hx => by rw [evl_psub, h x hx]; grind)
  have := cf_mem this i
  rw [cf_psub] at this
  grind
theorem top_of {f : List R} (h : ∃ i, cf f i ≠ 0) : ∃ b, cf f b ≠ 0 ∧ ∀ j, b < j → cf f j = 0 := by
  obtain ⟨i, hi⟩ := h
  have key : ∀ n, (∀ j, n ≤ j → cf f j = 0) → i < n → ∃ b, cf f b ≠ 0 ∧ ∀ j, b < j → cf f j = 0 := by
    intro n
    induction n with
    | zero => intro _ h; omega
    | succ n ih =>
      intro hz hin
      by_cases g : cf f n = 0
      · have : i ≠ n := fun e => hi (e ▸ g)
        exact ih (fun j hj => by by_cases e : j = n; exact e ▸ g; exact hz j (by omega)) (by omega)
      · exact ⟨n, g, fun j hj => hz j (by omega)⟩
  have hlt : i < f.length := by
    apply Classical.byContradiction
    intro g
    exact hi (cf_ge (by omega))
  exact key f.length (fun j hj => cf_ge hj) hlt
/-- division is unique: e times d with e monic of degree w has no fewer coefficients than w, unless d is zero -/
theorem div_uniq {e d rest : List R} {w : Nat} (h1 : cf e w = 1) (he : ∀ i, w < i → cf e i = 0) (hr : rest.length ≤ w) (h : ∀ i, cf (pmul e d) i = cf rest i) : ∀ i, cf d i = 0 := by
  intro i
  apply Classical.byContradiction
  intro g
  obtain ⟨b, hb, hz⟩ := top_of ⟨i, g⟩
  have := (cf_pmul_top e d w b he hz).1
  rw [h, cf_ge (by omega), h1] at this
  apply hb
  grind
theorem evl_cf0 {f : List R} (h : ∀ i, cf f i = 0) (x : R) : evl f x = 0 := by
  induction f with
  | nil => rfl
  | cons a f ih =>
    have h0 := h 0
    rw [cf_zero] at h0
    simp only [evl, h0, ih (fun i => by have := h (i + 1); rwa [cf_succ] at this)]; grind
theorem evl_congr {f g : List R} (h : ∀ i, cf f i = cf g i) (x : R) : evl f x = evl g x := by
  have := evl_cf0 (f := psub f g) (fun i => by rw [cf_psub, h i]; grind) x
  rw [evl_psub] at this
  grind
theorem evl_append (f g : List R) (x : R) : evl (f ++ g) x = evl f x + x ^ f.length * evl g x := by
  induction f with
  | nil => simp only [List.nil_append, evl, List.length_nil]; grind
  | cons a f ih => simp only [List.cons_append, evl, ih, List.length_cons]; grind
/-- Berlekamp and Welch: what any solution says -/
theorem bw (nz : ∀ a b : R, a * b = 0 → a = 0 ∨ b = 0) {q e f rest f0 good all : List R} {deg w : Nat}
    (hgood : good.Nodup) (hall : all.Nodup) (hq : q.length ≤ deg + w + 1) (h0 : f0.length ≤ deg + 1)
    (h1 : cf e w = 1) (he : e.length = w + 1) (hr : rest.length ≤ w)
    (hng : deg + w + 1 ≤ good.length) (hna : deg + w + 1 ≤ all.length) (hf : f.length + w ≤ all.length) (hna2 : deg + w + 2 ≤ all.length)
    (hk : ∀ x ∈ good, evl q x = evl f0 x * evl e x) (hd : ∀ x, evl q x = evl e x * evl f x + evl rest x) :
    (∀ i, cf f i = cf f0 i) ∧ ∀ i, cf rest i = 0 := by
  have e1 : ∀ i, cf q i = cf (pmul f0 e) i := eq_of_evl nz hgood (by omega) (by have := pmul_len1 f0 e (by omega); omega) (fun x hx => by rw [evl_pmul]; exact hk x hx)
  have e2 : ∀ x, evl q x = evl f0 x * evl e x := fun x => by rw [evl_congr e1 x, evl_pmul]
  have e3 : ∀ i, cf (pmul e (psub f0 f)) i = cf rest i := eq_of_evl nz hall (by
      have := pmul_len1 e (psub f0 f)
      rw [psub_len] at this
      have h2 := pmul_len e (psub f0 f)
      rw [psub_len] at h2
      by_cases z : 1 ≤ max f0.length f.length
      · have := this z; omega
      · omega) (by omega) (fun x _ => by
      have a1 := hd x
      have a2 := e2 x
      rw [evl_pmul, evl_psub]
      grind)
  have e4 := div_uniq h1 (fun i hi => cf_ge (by omega)) hr e3
  refine ⟨fun i => by have := e4 i; rw [cf_psub] at this; grind, fun i => ?_⟩
  have e5 : ∀ x, evl rest x = 0 := fun x => by
    have a1 := hd x
    have a2 := e2 x
    have a3 : evl f0 x - evl f x = 0 := by rw [← evl_psub]; exact evl_cf0 e4 x
    grind
  have := eq_of_evl nz hall (f := rest) (g := []) (by omega) (by simp) (fun x _ => by rw [e5]; rfl) i
  rw [this, cf_nil]
end
end Sp
