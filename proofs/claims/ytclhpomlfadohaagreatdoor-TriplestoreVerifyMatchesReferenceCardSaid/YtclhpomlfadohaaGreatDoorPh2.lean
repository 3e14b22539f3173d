/- Plain laws of the reference's polynomials: interpolation. -/
import Derived.Test.YtclhpomlfadohaaGreatDoorPb8
import Derived.Test.YtclhpomlfadohaaGreatDoorPh1
set_option linter.unusedVariables false
namespace Pu
open Gw Gl Sp Lean.Grind
theorem remU_ok' {a p : Nat} (hp : 0 < p) : remU a p = some (a % p) := by unfold remU; rw [if_neg (by omega)]
theorem refPow_ok {p a n : Nat} (hp : Sup p) (ha : a < p) (hn : n < 18446744073709551616) : privityref01_Pow p a n = some (a ^ n % p) := by
  have hl := hp.lt
  unfold privityref01_Pow
  obtain ⟨r, e, hr⟩ := lpO_big (step := fun (st : Nat × Nat × Nat) => privityref01_Pow_L0 p st.1 st.2.1 st.2.2)
    (fun st => st.1 < p ∧ st.2.1 < 18446744073709551616 ∧ st.2.2 < p ∧ st.2.2 * st.1 ^ st.2.1 % p = a ^ n % p)
    (fun r => r = a ^ n % p) (fun st => st.2.1) (fun st ⟨h1, h2, h3, h4⟩ => by
      obtain ⟨x, m, o⟩ := st
      simp only at h1 h2 h3 h4
      show ∃ q, privityref01_Pow_L0 p x m o = some q ∧ _
      unfold privityref01_Pow_L0
      by_cases c : m = 0
      · subst c
        rw [dF (by simp), cF]
        refine ⟨_, rfl, ?_⟩
        show o = _
        rw [← h4]; simp [Nat.mod_eq_of_lt h3]
      · rw [dT (by simp; omega), cT]
        have d2 : divU m 2 = some (m / 2) := by unfold divU; rw [if_neg (by decide), Nat.mod_eq_of_lt (by omega)]
        rw [remU_ok' (by decide), bS]
        by_cases g : m % 2 = 1
        · rw [eT (by omega), cT, refMul_ok hp h3 (by omega), bS, refMul_ok hp h1 (by omega), bS, d2, bS]
          exact ⟨_, rfl, ⟨Nat.mod_lt _ hp.pos, by show m / 2 < _; omega, Nat.mod_lt _ hp.pos, pow_odd h4 g⟩, by show m / 2 < m; omega⟩
        · rw [eF (by omega), cF, refMul_ok hp h1 (by omega), bS, d2, bS]
          exact ⟨_, rfl, ⟨Nat.mod_lt _ hp.pos, by show m / 2 < _; omega, h3, pow_even h4 (by omega)⟩, by show m / 2 < m; omega⟩)
    (s := (a, n, 1)) ⟨ha, hn, (show (1 : Nat) < p by omega), by simp⟩ hn
  rw [e, bS, hr]
theorem refInv_ok {p a : Nat} (hp : Sup p) (ha : a < p) (h0 : a ≠ 0) : privityref01_Inverse p a = some (pow p a (p - 2), 0) := by
  have hl := hp.lt
  unfold privityref01_Inverse
  rw [eF (by omega), cF, subU_ok (by omega) (by omega)]
  simp only [bS]
  rw [refPow_ok hp ha (by omega), bS]
  rfl
theorem refNeg_ok {p a : Nat} (hp : Sup p) (ha : a < p) : privityref01_Neg p a = some ((p - a) % p) := by
  have hl := hp.lt
  unfold privityref01_Neg
  rw [subU_ok (by omega) (by omega), bS, remU_ok' hp.pos, bS]
theorem refSub_ok {p a b : Nat} (hp : Sup p) (ha : a < p) (hb : b < p) : privityref01_Sub p a b = some ((a + p - b) % p) := by
  have hl := hp.lt
  unfold privityref01_Sub
  have a1 : addU a p = a + p := Nat.mod_eq_of_lt (by omega)
  rw [a1, bS, subU_ok (by omega) (by omega), bS, remU_ok' hp.pos, bS]
theorem refTrim_ok {f : List Nat} (h : f.length ≤ 1000) : ∃ t : List Nat, privityref04_Trim f = some t ∧ t.length ≤ f.length ∧ (∀ i, t.getD i 0 = f.getD i 0) := by
  unfold privityref04_Trim
  obtain ⟨r, e, k, hr, hk, hz⟩ := lpO_big (step := fun (st : Int) => privityref04_Trim_L0 f st) (fun st => ∃ k : Nat, st = k ∧ k ≤ f.length ∧ ∀ i, k ≤ i → f.getD i 0 = 0)
    (fun r => ∃ k : Nat, r = (k : Int) ∧ k ≤ f.length ∧ ∀ i, k ≤ i → f.getD i 0 = 0) (fun st => st.toNat) (fun st ⟨k, h1, h2, h3⟩ => by
      subst h1
      unfold privityref04_Trim_L0
      by_cases g : k = 0
      · subst g
        rw [dF (by omega), cF]
        exact ⟨_, rfl, 0, rfl, h2, h3⟩
      · have e1 : ((k : Int) - 1).toNat = k - 1 := by omega
        rw [dT (by omega), cT, subI_some (by omega) (by omega), bS, idx_getD 0 (by omega) (by omega), bS, e1]
        by_cases c : f.getD (k - 1) 0 = 0
        · rw [eT (by omega), cT]
          refine ⟨_, rfl, ⟨k - 1, by omega, by omega, fun i hi => ?_⟩, by omega⟩
          by_cases c2 : i = k - 1
          · rw [c2]; exact c
          · exact h3 i (by omega)
        · rw [eF (by omega), cF]
          exact ⟨_, rfl, k, rfl, h2, h3⟩)
    (s := ((f.length : Nat) : Int)) ⟨f.length, rfl, Nat.le_refl _, fun i hi => getD_ge hi⟩ (by omega)
  subst hr
  rw [e, bS, cutO_some (by omega) (by omega) (by omega), bS]
  have e1 : List.take (((k : Int)).toNat - (0 : Int).toNat) (List.drop ((0 : Int).toNat) f) = f.take k := by simp
  rw [e1, appO_some (by simp; omega) (by simp; omega), bS, List.nil_append]
  refine ⟨_, rfl, by simp; omega, fun i => ?_⟩
  by_cases g : i < k
  · rw [List.getD_eq_getElem?_getD, List.getElem?_take, if_pos g, ← List.getD_eq_getElem?_getD]
  · rw [getD_ge (by simp; omega), hz i (by omega)]
theorem refCoef_ok' {f : List Nat} {i : Nat} (h : f.length ≤ 1000) : privityref04_Coefficient f ((i : Nat) : Int) = some (f.getD i 0) := by
  unfold privityref04_Coefficient
  rw [dF (by omega), cF]
  by_cases g : i < f.length
  · rw [dF (by omega), cF, idx_getD 0 (by omega) (by omega), bS]; simp
  · rw [dT (by omega), cT, getD_ge (by omega)]
section
variable {p : Nat} [NeZero p]
theorem P_eq {f g : List Nat} (h : ∀ i, f.getD i 0 = g.getD i 0) (x : Fin p) : evl (P p f) x = evl (P p g) x := evl_congr (fun i => by rw [P_cf, P_cf, h i]) x
theorem Lt_of {q : Nat} {f g : List Nat} (hq : 0 < q) (h : ∀ i, f.getD i 0 = g.getD i 0) (hg : Lt q g) : Lt q f := fun i _ => by rw [h i]; exact hg.get hq i
/-- the sum -/
theorem refPAdd_ok (hp : Sup p) {a b : List Nat} (ha : Lt p a) (hb : Lt p b) (hla : a.length ≤ 100) (hlb : b.length ≤ 100) :
    ∃ c, privityref04_Add p a b = some c ∧ Lt p c ∧ c.length ≤ max a.length b.length ∧ ∀ x : Fin p, evl (P p c) x = evl (P p a) x + evl (P p b) x := by
  have hlt := hp.lt
  unfold privityref04_Add
  obtain ⟨l, e, l1, l2⟩ := lpO_big (step := fun (st : (List Nat) × Int) => privityref04_Add_L0 p a b st.1 st.2) (fun st => ∃ k : Nat, st.2 = k ∧ k ≤ max a.length b.length ∧ st.1.length = k ∧ ∀ i, i < k → st.1.getD i 0 = (a.getD i 0 + b.getD i 0) % p)
    (fun r => r.length = max a.length b.length ∧ ∀ i, i < max a.length b.length → r.getD i 0 = (a.getD i 0 + b.getD i 0) % p) (fun st => max a.length b.length - st.2.toNat) (fun st ⟨k, h1, h2, h3, h4⟩ => by
      obtain ⟨l, z⟩ := st
      replace h1 : z = k := h1
      replace h3 : l.length = k := h3
      replace h4 : ∀ i, i < k → l.getD i 0 = (a.getD i 0 + b.getD i 0) % p := h4
      subst h1
      show ∃ q, privityref04_Add_L0 p a b l ((k : Nat) : Int) = some q ∧ _
      unfold privityref04_Add_L0
      have hc : (bif decide (((k : Nat) : Int) < ((a.length : Nat) : Int)) then some true else some (decide (((k : Nat) : Int) < ((b.length : Nat) : Int)))) = some (decide (k < max a.length b.length)) := by
        by_cases g : k < a.length
        · rw [dT (by omega), cT, dT (by omega)]
        · rw [dF (by omega), cF]
          by_cases g2 : k < b.length
          · rw [dT (by omega), dT (by omega)]
          · rw [dF (by omega), dF (by omega)]
      rw [hc, bS]
      by_cases g : k < max a.length b.length
      · have h1 := ha.get hp.pos k
        have h2 := hb.get hp.pos k
        rw [dT g, cT, refCoef_ok' (by omega), bS, refCoef_ok' (by omega), bS, refAdd_ok hp (by omega), bS, appO_some (by simp; omega) (by simp; omega), bS, addI_some (by omega) (by omega), bS]
        refine ⟨_, rfl, ⟨k + 1, by show (k : Int) + 1 = _; omega, by omega, by show (l ++ [_]).length = _; simp [h3], fun i hi => ?_⟩, by show max a.length b.length - ((k : Int) + 1).toNat < max a.length b.length - ((k : Nat) : Int).toNat; omega⟩
        show (l ++ [_]).getD i 0 = _
        by_cases c : i < k
        · rw [getD_app_l (by omega)]; exact h4 i c
        · have : i = k := by omega
          subst this
          rw [getD_app_e h3.symm]
      · rw [dF g, cF]
        exact ⟨_, rfl, by show l.length = _; omega, fun i hi => h4 i (by omega)⟩)
    (s := (([] : List Nat), ((0 : Nat) : Int))) ⟨0, rfl, by omega, rfl, fun i hi => by omega⟩ (by show max a.length b.length - _ < _; omega)
  obtain ⟨t, et, t1, t2⟩ := refTrim_ok (f := l) (by omega)
  rw [e, bS, et, bS]
  have hall : ∀ i, l.getD i 0 = (a.getD i 0 + b.getD i 0) % p := fun i => by
    by_cases g : i < max a.length b.length
    · exact l2 i g
    · rw [getD_ge (by omega), getD_ge (l := a) (by omega), getD_ge (l := b) (by omega)]; simp
  refine ⟨t, rfl, fun i _ => by rw [t2, hall]; exact Nat.mod_lt _ hp.pos, by omega, fun x => ?_⟩
  rw [← evl_padd]
  refine evl_congr (fun i => ?_) x
  rw [P_cf, cf_padd, P_cf, P_cf, t2, hall, o_mod, o_add]
/-- a multiple -/
theorem refPScale_ok (hp : Sup p) {k : Nat} {a : List Nat} (hk : k < p) (ha : Lt p a) (hla : a.length ≤ 100) :
    ∃ c, privityref04_Scale p k a = some c ∧ Lt p c ∧ c.length ≤ a.length ∧ ∀ x : Fin p, evl (P p c) x = o p k * evl (P p a) x := by
  have hlt := hp.lt
  unfold privityref04_Scale
  rw [Nat.sub_zero]
  obtain ⟨l, e, l1, l2⟩ := rgS_inv (body := fun k1 (st : (List Nat)) => privityref04_Scale_L0 p k a k1 st) (rem := a.length) (k := 0) (s := ([] : List Nat))
    (fun j l => l.length = j ∧ ∀ i, i < j → l.getD i 0 = k * a.getD i 0 % p) ⟨rfl, fun i hi => by omega⟩ (fun j l _ hj ⟨l1, l2⟩ => by
      have h1 := ha.get hp.pos j
      unfold privityref04_Scale_L0
      rw [ix 0 (by omega), bS, refMul_ok hp hk (by omega), bS, appO_some (by simp; omega) (by simp; omega), bS]
      refine ⟨_, rfl, by simp [l1], fun i hi => ?_⟩
      by_cases c : i < j
      · rw [getD_app_l (by omega)]; exact l2 i c
      · have : i = j := by omega
        subst this
        rw [getD_app_e l1.symm])
  rw [Nat.zero_add] at l1 l2
  obtain ⟨t, et, t1, t2⟩ := refTrim_ok (f := l) (by omega)
  rw [e, bS, et, bS]
  have hall : ∀ i, l.getD i 0 = k * a.getD i 0 % p := fun i => by
    by_cases g : i < a.length
    · exact l2 i g
    · rw [getD_ge (by omega), getD_ge (l := a) (by omega)]; simp
  refine ⟨t, rfl, fun i _ => by rw [t2, hall]; exact Nat.mod_lt _ hp.pos, by omega, fun x => ?_⟩
  rw [← evl_smul]
  refine evl_congr (fun i => ?_) x
  rw [P_cf, cf_smul, P_cf, t2, hall, o_mod, o_mul]
theorem evl_set (x : Fin p) : ∀ {l : List Nat} {j v : Nat}, j < l.length → evl (P p (l.set j v)) x = evl (P p l) x + (o p v - o p (l.getD j 0)) * x ^ j
  | a :: t, 0, v, _ => by
    show o p v + x * evl (P p t) x = o p a + x * evl (P p t) x + (o p v - o p a) * x ^ 0
    grind
  | a :: t, j + 1, v, h => by
    have ih := evl_set x (l := t) (j := j) (v := v) (by simpa using h)
    show o p a + x * evl (P p (t.set j v)) x = o p a + x * evl (P p t) x + (o p v - o p (t.getD j 0)) * x ^ (j + 1)
    rw [ih]; grind
theorem evl_take_succ (x : Fin p) {l : List Nat} {k : Nat} (h : k < l.length) : evl (P p (l.take (k + 1))) x = evl (P p (l.take k)) x + o p (l.getD k 0) * x ^ k := by
  have e1 : l.take (k + 1) = l.take k ++ [l.getD k 0] := by rw [List.take_add_one, ix 0 h]; rfl
  have e2 : P p (l.take k ++ [l.getD k 0]) = P p (l.take k) ++ [o p (l.getD k 0)] := by simp [P]
  rw [e1, e2, evl_append, P_len, List.length_take, Nat.min_eq_left (by omega)]
  show _ + x ^ k * (o p (l.getD k 0) + x * 0) = _
  grind
/-- the product -/
theorem refPMul_ok (hp : Sup p) {a b : List Nat} (ha : Lt p a) (hb : Lt p b) (hla : a.length ≤ 100) (hlb : b.length ≤ 100) :
    ∃ c, privityref04_Mul p a b = some c ∧ Lt p c ∧ c.length ≤ a.length + b.length - 1 ∧ ∀ x : Fin p, evl (P p c) x = evl (P p a) x * evl (P p b) x := by
  have hlt := hp.lt
  unfold privityref04_Mul
  by_cases h0 : a.length = 0 ∨ b.length = 0
  · have hc : (bif ((a.length : Nat) : Int) == (0 : Int) then some true else some (((b.length : Nat) : Int) == (0 : Int))) = some true := by
      by_cases g : a.length = 0
      · rw [eT (by omega), cT]
      · rw [eF (by omega), cF, eT (by omega)]
    rw [hc, bS, cT]
    refine ⟨[], rfl, fun i hi => by simp at hi, by simp, fun x => ?_⟩
    rcases h0 with h | h
    · rw [List.eq_nil_of_length_eq_zero h]; show (0 : Fin p) = 0 * _; grind
    · rw [List.eq_nil_of_length_eq_zero h]; show (0 : Fin p) = _ * 0; grind
  · have hx1 : ((a.length : Nat) : Int) + ((b.length : Nat) : Int) = ((a.length + b.length : Nat) : Int) := by omega
    have hx2 : ((a.length + b.length : Nat) : Int) - 1 = ((a.length + b.length - 1 : Nat) : Int) := by omega
    rw [eF (by omega), cF, eF (by omega), bS, cF, addI_some (by omega) (by omega), bS, hx1, subI_some (by omega) (by omega), bS, hx2, mkO_some (by omega) (by omega) (by omega) (by omega), bS, Int.toNat_natCast, Nat.sub_zero]
    obtain ⟨l, e, l1, l2, l3⟩ := rgS_inv (body := fun k1 (st : (List Nat)) => privityref04_Mul_L0 p a b k1 st) (rem := a.length) (k := 0) (s := List.replicate (a.length + b.length - 1) 0)
      (fun j l => l.length = a.length + b.length - 1 ∧ Lt p l ∧ ∀ x : Fin p, evl (P p l) x = evl (P p (a.take j)) x * evl (P p b) x)
      ⟨by simp, fun i hi => by
        have h : i < a.length + b.length - 1 := by simpa using hi
        simp only [List.getD_eq_getElem?_getD, List.getElem?_replicate, if_pos h]; exact hp.pos, fun x => by
        have hz : evl (P p (List.replicate (a.length + b.length - 1) 0)) x = 0 := evl_cf0 (fun i => by
          rw [P_cf]
          have : (List.replicate (a.length + b.length - 1) 0).getD i 0 = 0 := by
            rw [List.getD_eq_getElem?_getD, List.getElem?_replicate]; split <;> rfl
          rw [this, o_zero]) x
        rw [hz]; show (0 : Fin p) = 0 * _; grind⟩ (fun j l _ hj ⟨l1, l2, l3⟩ => by
        have hja : j < a.length := by omega
        unfold privityref04_Mul_L0
        rw [Nat.sub_zero]
        obtain ⟨l', e', m1, m2, m3⟩ := rgS_inv (body := fun k2 (st : (List Nat)) => privityref04_Mul_L1 p a b j k2 st) (rem := b.length) (k := 0) (s := l)
          (fun q l' => l'.length = a.length + b.length - 1 ∧ Lt p l' ∧ ∀ x : Fin p, evl (P p l') x = evl (P p l) x + o p (a.getD j 0) * x ^ j * evl (P p (b.take q)) x)
          ⟨l1, l2, fun x => by show _ = _ + _ * 0; grind⟩ (fun q l' _ hq ⟨m1, m2, m3⟩ => by
            have hqb : q < b.length := by omega
            have hs : ((j : Nat) : Int) + ((q : Nat) : Int) = ((j + q : Nat) : Int) := by omega
            have hjq : j + q < l'.length := by omega
            have h1 := m2 _ hjq
            have h2 := ha j hja
            have h3 := hb q hqb
            have h4 := Nat.mod_lt (a.getD j 0 * b.getD q 0) hp.pos
            have h5 := Nat.mod_lt (l'.getD (j + q) 0 + a.getD j 0 * b.getD q 0 % p) hp.pos
            unfold privityref04_Mul_L1
            rw [addI_some (by omega) (by omega), bS, hs, idx_getD 0 (by omega) (by omega), bS, Int.toNat_natCast, ix 0 hja, bS, ix 0 hqb, bS, refMul_ok hp h2 (by omega), bS, refAdd_ok hp (by omega), bS, bS]
            refine ⟨_, rfl, by rw [List.length_set]; exact m1, Lt_set m2 h5, fun x => ?_⟩
            rw [evl_set x hjq, m3 x, evl_take_succ x hqb, o_mod, o_add, o_mod, o_mul]
            have hpw : x ^ (j + q) = x ^ j * x ^ q := by grind
            rw [hpw]; grind)
        rw [Nat.zero_add] at m3
        rw [e', bS]
        refine ⟨_, rfl, m1, m2, fun x => ?_⟩
        rw [m3 x, l3 x, evl_take_succ x hja, List.take_length]; grind)
    rw [Nat.zero_add] at l3
    obtain ⟨t, et, t1, t2⟩ := refTrim_ok (f := l) (by omega)
    rw [e, bS, et, bS]
    refine ⟨t, rfl, Lt_of hp.pos t2 l2, by omega, fun x => ?_⟩
    rw [P_eq t2, l3 x, List.take_length]
/-- a base polynomial -/
theorem base_ok (hp : Sup p) {xs : List Nat} {i : Nat} (hx : ∀ k, k < xs.length → xs.getD k 0 < p) (hne : ∀ k, k < xs.length → k ≠ i → xs.getD k 0 ≠ xs.getD i 0) (hi : i < xs.length) (hl : xs.length ≤ 20) :
    ∃ f, privityref05_base p xs ((i : Nat) : Int) = some f ∧ Lt p f ∧ f.length ≤ xs.length ∧ evl (P p f) (o p (xs.getD i 0)) = 1 ∧ ∀ k, k < xs.length → k ≠ i → evl (P p f) (o p (xs.getD k 0)) = 0 := by
  have hlt := hp.lt
  unfold privityref05_base
  rw [Nat.sub_zero]
  obtain ⟨f, e, f1, f2, f3, f4⟩ := rgS_inv (body := fun k1 (st : (List Nat)) => privityref05_base_L0 p xs ((i : Nat) : Int) k1 st) (rem := xs.length) (k := 0) (s := [1])
    (fun k f => Lt p f ∧ f.length ≤ (if i < k then k else k + 1) ∧ evl (P p f) (o p (xs.getD i 0)) = 1 ∧ ∀ q, q < k → q ≠ i → evl (P p f) (o p (xs.getD q 0)) = 0)
    ⟨fun j hj => by
      have : j = 0 := by simpa using hj
      subst this; show 1 < p; omega, by simp, by
      show o p 1 + _ * 0 = 1
      rw [o_one]; grind, fun q hq => by omega⟩ (fun k f _ hk ⟨f1, f2, f3, f4⟩ => by
      have hkx : k < xs.length := by omega
      unfold privityref05_base_L0
      by_cases g : k = i
      · subst g
        rw [qF rfl, cF]
        refine ⟨_, rfl, f1, by rw [if_pos (by omega)]; rw [if_neg (by omega)] at f2; exact f2, f3, fun q hq hqi => f4 q (by omega) hqi⟩
      · have h1 := hx k hkx
        have h2 := hx i hi
        have h3 := hne k hkx g
        have hr2 := Nat.mod_lt (xs.getD i 0 + p - xs.getD k 0) hp.pos
        have hr0 : (xs.getD i 0 + p - xs.getD k 0) % p ≠ 0 := fun h => by
          have : o p ((xs.getD i 0 + p - xs.getD k 0) % p) = 0 := by rw [h, o_zero]
          rw [o_mod, o_sub (by omega), o_add, o_self] at this
          have h5 : o p (xs.getD i 0) = o p (xs.getD k 0) := by grind
          exact h3 (o_inj h1 h2 h5.symm)
        have hinv : pow p ((xs.getD i 0 + p - xs.getD k 0) % p) (p - 2) < p := pow_lt hp
        have hng := Nat.mod_lt (p - xs.getD k 0) hp.pos
        have hr5 := Nat.mod_lt ((p - xs.getD k 0) % p * pow p ((xs.getD i 0 + p - xs.getD k 0) % p) (p - 2)) hp.pos
        rw [qT (by omega), cT, idx_getD 0 (by omega) (by omega), bS, Int.toNat_natCast, ix 0 hkx, bS, refSub_ok hp h2 h1, bS, refInv_ok hp hr2 hr0, bS, refNeg_ok hp h1, bS, refMul_ok hp hng (by omega), bS]
        have ho := Sup.oinv (p := p) hp (a := (xs.getD i 0 + p - xs.getD k 0) % p) (by rw [Nat.mod_mod]; exact hr0)
        rw [o_mod, o_sub (by omega), o_add, o_self] at ho
        generalize hv : pow p ((xs.getD i 0 + p - xs.getD k 0) % p) (p - 2) = v at *
        have hfl : f.length ≤ 22 := by
          have : f.length ≤ k + 1 := by
            split at f2 <;> omega
          omega
        obtain ⟨c, ec, c1, c2, c3⟩ := refPMul_ok hp (a := f) (b := [(p - xs.getD k 0) % p * v % p, v]) f1 (fun j hj => by
          have : j = 0 ∨ j = 1 := by simp at hj; omega
          rcases this with rfl | rfl
          · exact hr5
          · exact hinv) (by omega) (by simp)
        have hfac : ∀ x : Fin p, evl (P p [(p - xs.getD k 0) % p * v % p, v]) x = o p v * (x - o p (xs.getD k 0)) := fun x => by
          show o p _ + x * (o p v + x * 0) = _
          rw [o_mod, o_mul, o_mod, o_sub (by omega), o_self]; grind
        rw [ec, bS]
        refine ⟨_, rfl, c1, ?_, ?_, fun q hq hqi => ?_⟩
        · have : ([(p - xs.getD k 0) % p * v % p, v] : List Nat).length = 2 := rfl
          rw [this] at c2
          split at f2 <;> split <;> omega
        · rw [c3, f3, hfac]; grind
        · rw [c3, hfac]
          by_cases c : q < k
          · rw [f4 q c hqi]; grind
          · have : q = k := by omega
            subst this; grind)
  rw [Nat.zero_add] at f2 f4
  rw [if_pos hi] at f2
  rw [e, bS]
  exact ⟨f, rfl, f1, f2, f3, f4⟩
theorem places_ok {pts : List T_api_Point} (hl : pts.length ≤ 100) : privityref05_Places pts = some (pts.map (·.X)) := by
  unfold privityref05_Places
  rw [Nat.sub_zero]
  obtain ⟨l, e, h⟩ := rgS_inv (body := fun k1 (st : (List Nat)) => privityref05_Places_L0 pts k1 st) (rem := pts.length) (k := 0) (s := ([] : List Nat)) (fun k l => l = (pts.take k).map (·.X)) (by simp) (fun k l _ hk h => by
    have hkp : k < pts.length := by omega
    have hll : l.length = k := by rw [h]; simp; omega
    unfold privityref05_Places_L0
    rw [ix default hkp, bS, appO_some (by simp; omega) (by simp; omega), bS]
    refine ⟨_, rfl, ?_⟩
    rw [List.take_add_one, ix default hkp, h]; simp)
  rw [Nat.zero_add, List.take_length] at h
  rw [e, bS, h]
theorem unlike_ok {xs : List Nat} (hl : xs.length ≤ 100) (hne : ∀ i, i < xs.length → ∀ j, j < i → xs.getD j 0 ≠ xs.getD i 0) : privityref05_Unlike xs = some true := by
  unfold privityref05_Unlike
  rw [Nat.sub_zero]
  obtain ⟨o1, e, ho⟩ := rgO_inv (body := fun k1 (st : Unit) => privityref05_Unlike_L0 xs k1) (fun _ _ => True) (fun _ => False) (rem := xs.length) (k := 0) (s := ()) trivial (fun i _ _ hi _ => by
    have hix : i < xs.length := by omega
    unfold privityref05_Unlike_L0
    rw [ckN_some (by omega), bS, Nat.sub_zero]
    obtain ⟨o2, e2, ho2⟩ := rgO_inv (body := fun k2 (st : Unit) => privityref05_Unlike_L1 xs i k2) (fun _ _ => True) (fun _ => False) (rem := i) (k := 0) (s := ()) trivial (fun j _ _ hj _ => by
      have := hne i hix j (by omega)
      unfold privityref05_Unlike_L1
      rw [ix 0 hix, bS, ix 0 (by omega), bS, eF (by omega), cF]
      exact ⟨_, rfl, trivial⟩)
    rw [e2, bS]
    cases o2 with
    | fin _ => exact ho2.elim
    | go _ => rw [oG]; exact ⟨_, rfl, trivial⟩)
  rw [e, bS]
  cases o1 with
  | fin _ => exact ho.elim
  | go _ => rw [oG]
/-- interpolation -/
theorem polynomial_ok (hp : Sup p) {pts : List T_api_Point} (hP : Pts p pts) (hl : pts.length ≤ 20) :
    ∃ f, privityref05_Polynomial p pts = some (f, 0) ∧ Lt p f ∧ f.length ≤ pts.length ∧ ∀ i, i < pts.length → evl (P p f) (o p (pts.getD i default).X) = o p (pts.getD i default).Y := by
  have hxs : ∀ k, k < pts.length → (pts.map (·.X)).getD k 0 = (pts.getD k default).X := fun k hk => by
    rw [List.getD_eq_getElem?_getD, List.getD_eq_getElem?_getD, List.getElem?_map, List.getElem?_eq_getElem hk]; rfl
  have hml : (pts.map (·.X)).length = pts.length := by simp
  have hne : ∀ k i, k < pts.length → i < pts.length → k ≠ i → (pts.getD k default).X ≠ (pts.getD i default).X := fun k i hk hi h => by
    rcases Nat.lt_or_gt_of_ne h with g | g
    · exact hP.ne i hi k g
    · exact (hP.ne k hk i g).symm
  unfold privityref05_Polynomial
  rw [places_ok (by omega), bS, unlike_ok (by rw [hml]; omega) (fun i hi j hj => by
    rw [hml] at hi
    rw [hxs i hi, hxs j (by omega)]; exact hP.ne i hi j hj), bS, nT, cF, Nat.sub_zero]
  obtain ⟨f, e, f1, f2, f3, f4⟩ := rgS_inv (body := fun k1 (st : (List Nat)) => privityref05_Polynomial_L0 p pts (pts.map (·.X)) k1 st) (rem := pts.length) (k := 0) (s := ([] : List Nat))
    (fun k f => Lt p f ∧ f.length ≤ pts.length ∧ (∀ i, i < k → evl (P p f) (o p (pts.getD i default).X) = o p (pts.getD i default).Y) ∧ ∀ i, k ≤ i → i < pts.length → evl (P p f) (o p (pts.getD i default).X) = 0)
    ⟨fun i hi => by simp at hi, by simp, fun i hi => by omega, fun i _ _ => rfl⟩ (fun k f _ hk ⟨f1, f2, f3, f4⟩ => by
      have hkp : k < pts.length := by omega
      obtain ⟨b, eb, b1, b2, b3, b4⟩ := base_ok hp (xs := pts.map (·.X)) (i := k) (fun q hq => by rw [hml] at hq; rw [hxs q hq]; exact hP.x q hq) (fun q hq hqk => by rw [hml] at hq; rw [hxs q hq, hxs k hkp]; exact hne q k hq hkp hqk) (by rw [hml]; exact hkp) (by rw [hml]; exact hl)
      rw [hml] at b2 b4
      rw [hxs k hkp] at b3
      obtain ⟨c, ec, c1, c2, c3⟩ := refPScale_ok hp (hP.y k hkp) b1 (by omega)
      obtain ⟨d, ed, d1, d2, d3⟩ := refPAdd_ok hp f1 c1 (by omega) (by omega)
      unfold privityref05_Polynomial_L0
      rw [ix default hkp, bS, eb, bS, ec, bS, ed, bS]
      refine ⟨_, rfl, d1, by omega, fun i hi => ?_, fun i hi1 hi2 => ?_⟩
      · rw [d3, c3]
        by_cases g : i < k
        · have := b4 i (by omega) (by omega)
          rw [hxs i (by omega)] at this
          rw [f3 i g, this]; grind
        · have : i = k := by omega
          subst this
          rw [f4 i (Nat.le_refl _) hkp, b3]; grind
      · have := b4 i hi2 (by omega)
        rw [hxs i hi2] at this
        rw [d3, c3, f4 i (by omega) hi2, this]; grind)
  rw [Nat.zero_add] at f3
  rw [e, bS]
  exact ⟨f, rfl, f1, f2, f3⟩
end
end Pu
