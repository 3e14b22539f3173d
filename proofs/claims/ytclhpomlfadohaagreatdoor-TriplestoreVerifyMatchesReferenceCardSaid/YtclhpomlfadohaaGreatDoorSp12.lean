/- The folding of a product modulo a Mersenne prime ends. Plain Lean, no program. -/
import Derived.Test.YtclhpomlfadohaaGreatDoorSp11
set_option linter.unusedVariables false
namespace Sp
def fms (h l : Nat) : Nat := if h = 0 then l / 4 else 4611686018427387904 + h
theorem fm_and {p l : Nat} (hp : Sup p) (hl : l < 18446744073709551616) : l &&& p = fm p l := by
  have := hp.q
  unfold fm
  conv => lhs; rw [this.1]
  exact Nat.and_two_pow_sub_one_eq_mod l (qOf p)
theorem nh_dec {p h l : Nat} (hp : Sup p) (hh : h < 18446744073709551616) (hl : l < 18446744073709551616) (h0 : h ≠ 0) : nh p h l < h := by
  have hq := hp.q
  have h1 := fh_le (h := h) hp
  have h2 := fl_lt (h := h) hp hl
  have h3 := fm_lt (p := p) hl
  have hc : nc p h l ≤ 1 := by unfold nc; omega
  unfold nh
  by_cases g : h = 1
  · subst g
    have : nc p 1 l = 0 := by
      unfold nc
      rw [Nat.div_eq_zero_iff]
      right
      have a1 : fm p l < 2305843009213693952 := by
        unfold fm
        have : 2 ^ qOf p ≤ 2 ^ 61 := Nat.pow_le_pow_right (by decide) hq.2.2
        have := Nat.mod_lt l (Nat.two_pow_pos (qOf p))
        omega
      have a2 : fl p 1 l < 1152921504606846976 := by
        unfold fl
        have e1 : l / 2 ^ qOf p < 2 ^ (64 - qOf p) := lo_div_lt hl (by omega)
        have e2 : 1 % 2 ^ qOf p ≤ 1 := Nat.mod_le _ _
        have e3 : 2 ^ (64 - qOf p) ≤ 2 ^ 59 := Nat.pow_le_pow_right (by decide) (by omega)
        have e4 : 2 ^ (64 - qOf p) * (1 % 2 ^ qOf p) ≤ 2 ^ (64 - qOf p) * 1 := Nat.mul_le_mul_left _ e2
        omega
      omega
    omega
  · omega
theorem nl_dec {p l : Nat} (hp : Sup p) (hl : l < 18446744073709551616) (h0 : p < l) : nh p 0 l = 0 ∧ nl p 0 l + 31 ≤ l := by
  have hq := hp.q
  have e := fold_nxt (p := p) (h := 0) (l := l) hp
  rw [Nat.zero_mul, Nat.zero_add] at e
  have hle := hp.lt
  have hP : 2 ^ qOf p = p + 1 := by have := Nat.two_pow_pos (qOf p); omega
  rw [hP] at e
  have d := Nat.div_add_mod l (p + 1)
  have hk : 1 ≤ l / (p + 1) := (Nat.le_div_iff_mul_le (by omega)).2 (by omega)
  have : l / (p + 1) + 31 ≤ (p + 1) * (l / (p + 1)) := by
    have := Nat.mul_le_mul_right (l / (p + 1)) (show 32 ≤ p + 1 by omega)
    omega
  have hs : nh p 0 l * 18446744073709551616 + nl p 0 l + 31 ≤ l := by omega
  constructor
  · apply Classical.byContradiction
    intro g
    have : 1 ≤ nh p 0 l := by omega
    have := Nat.mul_le_mul_right 18446744073709551616 this
    omega
  · omega
theorem fms_dec {p h l : Nat} (hp : Sup p) (hh : h < 4611686018427387904) (hl : l < 18446744073709551616) (c : h ≠ 0 ∨ p < l) : fms (nh p h l) (nl p h l) < fms h l := by
  by_cases h0 : h = 0
  · subst h0
    have := nl_dec hp hl (by omega)
    unfold fms
    rw [if_pos this.1, if_pos rfl]; omega
  · have := nh_dec hp (by omega) hl h0
    have h3 := nl_lt (p := p) (h := h) (l := l)
    unfold fms
    rw [if_neg h0]
    split <;> omega
theorem fms_lt {h l : Nat} (hh : h < 4611686018427387904) (hl : l < 18446744073709551616) : fms h l < 18446744073709551616 := by
  unfold fms; split <;> omega
end Sp
