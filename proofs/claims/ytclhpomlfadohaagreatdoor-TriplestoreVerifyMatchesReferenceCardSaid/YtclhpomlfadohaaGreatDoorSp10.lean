/- The field of a supported prime: numbers below p as a commutative ring without zero divisors. Plain Lean, no program. -/
import Derived.Test.YtclhpomlfadohaaGreatDoorSp9
set_option linter.unusedVariables false
namespace Sp
open Lean.Grind
/-- a number modulo p -/
def o (p : Nat) [NeZero p] (n : Nat) : Fin p := Fin.ofNat p n
section
variable {p : Nat} [NeZero p]
theorem o_eq {a b : Nat} : o p a = o p b ↔ a % p = b % p := by
  constructor
  · intro h; exact congrArg Fin.val h
  · intro h; exact Fin.ext h
theorem o_mod {a : Nat} : o p (a % p) = o p a := o_eq.2 (Nat.mod_mod a p)
theorem o_val (a : Fin p) : o p a.val = a := Fin.ext (Nat.mod_eq_of_lt a.isLt)
theorem o_inj {a b : Nat} (ha : a < p) (hb : b < p) (h : o p a = o p b) : a = b := by
  rw [o_eq, Nat.mod_eq_of_lt ha, Nat.mod_eq_of_lt hb] at h; exact h
theorem o_add {a b : Nat} : o p (a + b) = o p a + o p b := by
  apply Fin.ext; simp [o, Fin.add_def]
theorem o_mul {a b : Nat} : o p (a * b) = o p a * o p b := by
  apply Fin.ext; simp [o, Fin.mul_def, Nat.mul_mod]
theorem o_zero : o p 0 = 0 := by apply Fin.ext; simp [o]
theorem o_self : o p p = 0 := by apply Fin.ext; simp [o]
theorem o_one : o p 1 = 1 := rfl
theorem o_eq0 {a : Nat} : o p a = 0 ↔ a % p = 0 := by rw [← o_zero, o_eq, Nat.zero_mod]
theorem o_sub {a b : Nat} (h : b ≤ a) : o p (a - b) = o p a - o p b := by
  have : o p (a - b) + o p b = o p a := by rw [← o_add]; congr 1; omega
  grind
end
theorem Sup.ne {p : Nat} (h : Sup p) : NeZero p := ⟨by have := h.lt; omega⟩
theorem Sup.nz {p : Nat} [NeZero p] (h : Sup p) (a b : Fin p) (e : a * b = 0) : a = 0 ∨ b = 0 := by
  rw [← o_val a, ← o_val b, ← o_mul, o_eq0] at e
  rw [← o_val a, ← o_val b, o_eq0, o_eq0]
  exact h.mul0 e
theorem Sup.one {p : Nat} [NeZero p] (h : Sup p) : (1 : Fin p) ≠ 0 := by
  rw [← o_one, ← o_zero]
  intro e
  have := h.lt
  have := o_inj (by omega) (by omega) e
  omega
theorem Sup.oinv {p a : Nat} [NeZero p] (h : Sup p) (ha : a % p ≠ 0) : o p (pow p a (p - 2)) * o p a = 1 := by
  rw [← o_mul, ← o_one, o_eq, Nat.mul_comm, h.inv ha, Nat.mod_eq_of_lt]
  have := h.lt; omega
end Sp
