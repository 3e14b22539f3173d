/- Plain laws of the field's functions. -/
import Derived.Test.YtclhpomlfadohaaGreatDoorZ1p
import Derived.Test.YtclhpomlfadohaaGreatDoorWl
import Derived.Test.YtclhpomlfadohaaGreatDoorSp12
set_option linter.unusedVariables false
namespace Pu
open Gw Gl Sp
theorem zz {a b : Nat} (h : a = b) : (((a : Nat) : Int) == ((b : Nat) : Int)) = true := eT (by rw [h])
theorem zzF {a b : Nat} (h : a ≠ b) : (((a : Nat) : Int) == ((b : Nat) : Int)) = false := eF (by omega)
theorem width_ok {p : Nat} (hp : Sup p) : field_width p = some (qOf p) := by
  rcases hp with rfl | rfl | rfl | rfl | rfl | rfl | rfl <;> decide +kernel
theorem andU_lt {a b : Nat} (ha : a < 18446744073709551616) (hb : b < 18446744073709551616) : andU a b = a &&& b := by
  unfold andU; rw [Nat.mod_eq_of_lt ha, Nat.mod_eq_of_lt hb]
theorem shrU_some {a q : Nat} (hq : q ≤ 64) : shrU a ((q : Nat) : Int) = some (a / 2 ^ q) := by
  unfold shrU
  rw [if_neg (by omega)]
  simp [Nat.min_eq_left hq]
theorem shlU_some {a q : Nat} (hq : q ≤ 64) : shlU a ((q : Nat) : Int) = some (a * 2 ^ q % 18446744073709551616) := by
  unfold shlU
  rw [if_neg (by omega)]
  simp [Nat.min_eq_left hq]
theorem subU_ok {a b : Nat} (h : b ≤ a) (ha : a < 18446744073709551616) : subU a b = a - b := by unfold subU; omega
theorem fold_step {p h l : Nat} (hp : Sup p) (hh : h < 18446744073709551616) (hl : l < 18446744073709551616) (c : h ≠ 0 ∨ p < l) : field_fold_L0 p (qOf p) h l = some (.go (nh p h l, nl p h l)) := by
  have hq := hp.q
  have hpl := hp.lt
  unfold field_fold_L0
  have hx : (bif ((h : Nat) : Int) != (0 : Int) then some true else some (decide (((l : Nat) : Int) > ((p : Nat) : Int)))) = some true := by
    by_cases h0 : h = 0
    · subst h0
      rw [qF (by simp), cF, dT (by omega)]
    · rw [qT (by omega), cT]
  rw [hx]
  simp only [bS, cT]
  rw [shrU_some (by omega), bS, subU_ok (by omega) (by omega), shlU_some (by omega)]
  simp only [bS]
  rw [shrU_some (by omega)]
  simp only [bS]
  have e1 : andU l p = fm p l := by rw [andU_lt hl (by omega), fm_and hp hl]
  have e2 : orU (l / 2 ^ qOf p) (h * 2 ^ (64 - qOf p) % 18446744073709551616) = fl p h l := by
    unfold orU
    rw [Nat.mod_eq_of_lt (Nat.lt_of_le_of_lt (Nat.div_le_self ..) hl), Nat.mod_mod]
    exact or_fl hp hl
  rw [e1, e2]
  have e3 : addU (h / 2 ^ qOf p) (carU (fl p h l) (fm p l)) = nh p h l := by
    have := nh_lt (p := p) hp hh hl
    show (fh p h + nc p h l) % _ = _
    exact Nat.mod_eq_of_lt this
  rw [e3]; rfl
theorem fold_end {p h l : Nat} (c : ¬ (h ≠ 0 ∨ p < l)) : field_fold_L0 p (qOf p) h l = some (.fin l) := by
  unfold field_fold_L0
  have h0 : h = 0 := by omega
  subst h0
  rw [qF (by simp), cF, dF (by omega)]
  simp only [bS, cF]
theorem fold_ok {p h l : Nat} (hp : Sup p) (hh : h < 4611686018427387904) (hl : l < 18446744073709551616) : field_fold p h l = some ((h * 18446744073709551616 + l) % p) := by
  unfold field_fold
  rw [width_ok hp, bS]
  obtain ⟨r, e, hr⟩ := lpO_big (step := fun (st : Nat × Nat) => field_fold_L0 p (qOf p) st.1 st.2)
    (fun st => st.1 < 4611686018427387904 ∧ st.2 < 18446744073709551616 ∧ (st.1 * 18446744073709551616 + st.2) % p = (h * 18446744073709551616 + l) % p)
    (fun r => r ≤ p ∧ r % p = (h * 18446744073709551616 + l) % p) (fun st => fms st.1 st.2) (fun st ⟨h1, h2, h3⟩ => by
      by_cases c : st.1 ≠ 0 ∨ p < st.2
      · refine ⟨_, fold_step hp (by omega) h2 c, ⟨?_, nl_lt, ?_⟩, fms_dec hp h1 h2 c⟩
        · by_cases h0 : st.1 = 0
          · rw [h0]
            show nh p 0 st.2 < _
            rw [(nl_dec hp h2 (by omega)).1]; omega
          · have := nh_dec hp (by omega) h2 h0
            show nh p st.1 st.2 < _
            omega
        · exact fold_inv hp h3
      · refine ⟨_, fold_end c, ?_, ?_⟩
        · show st.2 ≤ p; omega
        · show st.2 % p = _
          rw [← h3]
          have : st.1 = 0 := by omega
          rw [this]; simp) (s := (h, l)) ⟨hh, hl, rfl⟩ (fms_lt hh hl)
  rw [e, bS]
  by_cases g : r = p
  · subst g
    rw [zz rfl, cT, ← hr.2, Nat.mod_self]
  · rw [zzF g, cF, ← hr.2, Nat.mod_eq_of_lt (by omega)]
theorem m64_ok {a b : Nat} (ha : a < 18446744073709551616) (hb : b < 18446744073709551616) : math_bits_Mul64 a b = some (a * b / 18446744073709551616, a * b % 18446744073709551616) := by
  unfold math_bits_Mul64
  have h32 : ∀ x, x < 18446744073709551616 → andU x 4294967295 = x % 4294967296 := fun x hx => by
    rw [andU_lt hx (by omega)]; exact Nat.and_two_pow_sub_one_eq_mod x 32
  have s32 : ∀ x, shrU x (32 : Int) = some (x / 4294967296) := fun x => shrU_some (q := 32) (by omega)
  have l1 : ∀ x y, addU x y < 18446744073709551616 := fun x y => Nat.mod_lt _ (by decide)
  simp only [bS, s32, h32 a ha, h32 b hb, h32 _ (l1 _ _)]
  have m := mul64 a b
  simp only at m
  have ha1 : a / 4294967296 < 4294967296 := by omega
  have hb1 : b / 4294967296 < 4294967296 := by omega
  have ha0 : a % 4294967296 < 4294967296 := Nat.mod_lt _ (by decide)
  have hb0 : b % 4294967296 < 4294967296 := Nat.mod_lt _ (by decide)
  have c00 := mul32 ha0 hb0
  have c10 := mul32 ha1 hb0
  have c01 := mul32 ha0 hb1
  have c11 := mul32 ha1 hb1
  have hi := mul_hi ha hb
  have k1 : mulU (a % 4294967296) (b % 4294967296) = a % 4294967296 * (b % 4294967296) := Nat.mod_eq_of_lt (by omega)
  have k2 : mulU (a / 4294967296) (b % 4294967296) = a / 4294967296 * (b % 4294967296) := Nat.mod_eq_of_lt (by omega)
  have k3 : mulU (a % 4294967296) (b / 4294967296) = a % 4294967296 * (b / 4294967296) := Nat.mod_eq_of_lt (by omega)
  have k4 : mulU (a / 4294967296) (b / 4294967296) = a / 4294967296 * (b / 4294967296) := Nat.mod_eq_of_lt (by omega)
  rw [k1, k2, k3, k4]
  generalize a % 4294967296 * (b % 4294967296) = A at *
  generalize a / 4294967296 * (b % 4294967296) = B at *
  generalize a % 4294967296 * (b / 4294967296) = C at *
  generalize a / 4294967296 * (b / 4294967296) = D at *
  have k5 : addU B (A / 4294967296) = B + A / 4294967296 := Nat.mod_eq_of_lt (by omega)
  rw [k5]
  have k6 : addU ((B + A / 4294967296) % 4294967296) C = (B + A / 4294967296) % 4294967296 + C := Nat.mod_eq_of_lt (by omega)
  rw [k6]
  have k7 : addU D ((B + A / 4294967296) / 4294967296) = D + (B + A / 4294967296) / 4294967296 := Nat.mod_eq_of_lt (by omega)
  rw [k7]
  have k8 : addU (D + (B + A / 4294967296) / 4294967296) (((B + A / 4294967296) % 4294967296 + C) / 4294967296) = D + (B + A / 4294967296) / 4294967296 + ((B + A / 4294967296) % 4294967296 + C) / 4294967296 := Nat.mod_eq_of_lt (by omega)
  rw [k8, m]
  rfl
theorem mul_ok {p a b : Nat} (hp : Sup p) (ha : a < p) (hb : b < p) : field_Mul p a b = some (a * b % p) := by
  have hl := hp.lt
  unfold field_Mul
  rw [m64_ok (by omega) (by omega), bS]
  have h1 : a * b ≤ 2305843009213693951 * 2305843009213693951 := Nat.mul_le_mul (by omega) (by omega)
  have h2 : a * b / 18446744073709551616 < 4611686018427387904 := by omega
  have h3 : a * b % 18446744073709551616 < 18446744073709551616 := Nat.mod_lt _ (by decide)
  rw [fold_ok hp h2 h3]
  simp only [bS]
  congr 2
  have := Nat.div_add_mod (a * b) 18446744073709551616
  rw [Nat.mul_comm] at this
  exact this
theorem add_ok {p a b : Nat} (hp : Sup p) (h : a + b < 18446744073709551616) : field_Add p a b = some ((a + b) % p) := by
  unfold field_Add
  have : addU a b = a + b := Nat.mod_eq_of_lt h
  rw [this]
  simp only [bS]
  rw [fold_ok hp (by decide) h]
  simp only [bS, Nat.zero_mul, Nat.zero_add]
theorem reduce_ok {p a : Nat} (hp : Sup p) (h : a < 18446744073709551616) : field_Reduce p a = some (a % p) := by
  unfold field_Reduce
  rw [fold_ok hp (by decide) h]
  simp only [bS, Nat.zero_mul, Nat.zero_add]
theorem neg_ok {p a : Nat} (hp : Sup p) (h : a < p) : field_Neg p a = some ((p - a) % p) := by
  have hl := hp.lt
  unfold field_Neg
  by_cases g : a = 0
  · subst g; rw [eT (by simp), cT]; simp
  · rw [eF (by omega), cF, subU_ok (by omega) (by omega)]
    simp only [bS]
    rw [Nat.mod_eq_of_lt (by omega)]
theorem sub_ok {p a b : Nat} (hp : Sup p) (ha : a < p) (hb : b < p) : field_Sub p a b = some ((a + (p - b) % p) % p) := by
  have hl := hp.lt
  have := Nat.mod_lt (p - b) hp.pos
  unfold field_Sub
  rw [neg_ok hp hb, bS, add_ok hp (by omega), bS]
theorem pow_ok {p a n : Nat} (hp : Sup p) (ha : a < p) (hn : n < 18446744073709551616) : field_Pow p a n = some (a ^ n % p) := by
  have hl := hp.lt
  unfold field_Pow
  obtain ⟨r, e, hr⟩ := lpO_big (step := fun (st : Nat × Nat × Nat) => field_Pow_L0 p st.1 st.2.1 st.2.2)
    (fun st => st.1 < p ∧ st.2.1 < 18446744073709551616 ∧ st.2.2 < p ∧ st.2.2 * st.1 ^ st.2.1 % p = a ^ n % p)
    (fun r => r = a ^ n % p) (fun st => st.2.1) (fun st ⟨h1, h2, h3, h4⟩ => by
      obtain ⟨x, m, o⟩ := st
      simp only at h1 h2 h3 h4
      unfold field_Pow_L0
      by_cases c : m = 0
      · subst c
        rw [dF (by simp), cF]
        refine ⟨_, rfl, ?_⟩
        show o = _
        rw [← h4]; simp [Nat.mod_eq_of_lt h3]
      · rw [dT (by simp; omega), cT]
        have a1 : andU m 1 = m % 2 := by rw [andU_lt h2 (by decide)]; exact Nat.and_two_pow_sub_one_eq_mod m 1
        have s1 : shrU m (1 : Int) = some (m / 2) := shrU_some (q := 1) (by omega)
        rw [bS, a1]
        by_cases g : m % 2 = 1
        · rw [eT (by omega), cT, mul_ok hp h3 h1, bS, mul_ok hp h1 h1, bS, s1, bS]
          exact ⟨_, rfl, ⟨Nat.mod_lt _ hp.pos, by show m / 2 < _; omega, Nat.mod_lt _ hp.pos, pow_odd h4 g⟩, by show m / 2 < m; omega⟩
        · rw [eF (by omega), cF, mul_ok hp h1 h1, bS, s1, bS]
          exact ⟨_, rfl, ⟨Nat.mod_lt _ hp.pos, by show m / 2 < _; omega, h3, pow_even h4 (by omega)⟩, by show m / 2 < m; omega⟩)
    (s := (a, n, 1)) ⟨ha, hn, (show (1 : Nat) < p by omega), by simp⟩ hn
  rw [e, bS, hr]
theorem inv_ok {p a : Nat} (hp : Sup p) (ha : a < p) (h0 : a ≠ 0) : field_Inverse p a = some (pow p a (p - 2), 0) := by
  have hl := hp.lt
  unfold field_Inverse
  rw [eF (by omega), cF, subU_ok (by omega) (by omega)]
  simp only [bS]
  rw [pow_ok hp ha (by omega), bS]
  rfl
theorem o_sub' {p a b : Nat} [NeZero p] (hb : b < p) : o p ((a + (p - b) % p) % p) = o p a - o p b := by
  rw [o_mod, o_add, o_mod, o_sub (by omega), o_self]; grind
theorem o_neg' {p b : Nat} [NeZero p] (hb : b < p) : o p ((p - b) % p) = - o p b := by
  rw [o_mod, o_sub (by omega), o_self]; grind
end Pu
