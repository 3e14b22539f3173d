/- Plain laws of the reference's small functions, and of opening shares. -/
import Derived.Test.YtclhpomlfadohaaGreatDoorPb7
set_option linter.unusedVariables false
namespace Pu
open Gw Gl Sp Lean.Grind
theorem refMul_ok {p a b : Nat} (hp : Sup p) (ha : a < p) (hb : b < 18446744073709551616) : privityref01_Mul p a b = some (a * b % p) := by
  have hl := hp.lt
  unfold privityref01_Mul
  obtain ⟨r, e, hr⟩ := lpO_big (step := fun (st : Nat × Nat × Nat) => privityref01_Mul_L0 p st.1 st.2.1 st.2.2) (fun st => st.1 < p ∧ st.2.1 < 18446744073709551616 ∧ st.2.2 < p ∧ (st.2.2 + st.1 * st.2.1) % p = a * b % p) (fun r => r = a * b % p) (fun st => st.2.1) (fun st ⟨h1, h2, h3, h4⟩ => by
    obtain ⟨x, m, o⟩ := st
    replace h1 : x < p := h1
    replace h2 : m < 18446744073709551616 := h2
    replace h3 : o < p := h3
    replace h4 : (o + x * m) % p = a * b % p := h4
    show ∃ q, privityref01_Mul_L0 p x m o = some q ∧ _
    unfold privityref01_Mul_L0
    by_cases c : m = 0
    · subst c
      rw [dF (by omega), cF]
      refine ⟨_, rfl, ?_⟩
      show o = _
      rw [← h4, Nat.mul_zero, Nat.add_zero, Nat.mod_eq_of_lt h3]
    · have r2 : ∀ y, remU y 2 = some (y % 2) := fun y => by unfold remU; rw [if_neg (by decide)]
      have rp : ∀ y, remU y p = some (y % p) := fun y => by unfold remU; rw [if_neg (by omega)]
      have d2 : divU m 2 = some (m / 2) := by unfold divU; rw [if_neg (by decide), Nat.mod_eq_of_lt (by omega)]
      have a1 : addU o x = o + x := Nat.mod_eq_of_lt (by omega)
      have a2 : addU x x = x + x := Nat.mod_eq_of_lt (by omega)
      have hx : (x + x) * (m / 2) = x * (2 * (m / 2)) := by rw [← Nat.two_mul, Nat.mul_assoc, Nat.mul_left_comm, Nat.mul_left_comm]
      rw [dT (by omega), cT, r2, bS]
      by_cases g : m % 2 = 1
      · rw [eT (by omega), cT, a1, bS, rp, bS, a2, bS, rp, bS, d2, bS]
        refine ⟨_, rfl, ⟨Nat.mod_lt _ hp.pos, by show m / 2 < _; omega, Nat.mod_lt _ hp.pos, ?_⟩, by show m / 2 < m; omega⟩
        show ((o + x) % p + (x + x) % p * (m / 2)) % p = _
        rw [← h4, Nat.add_mod, Nat.mul_mod, Nat.mod_mod, Nat.mod_mod, ← Nat.mul_mod, ← Nat.add_mod, hx]
        congr 1
        have : m = 1 + 2 * (m / 2) := by omega
        conv => rhs; rw [this, Nat.mul_add, Nat.mul_one]
        omega
      · rw [eF (by omega), cF, a2, bS, rp, bS, d2, bS]
        refine ⟨_, rfl, ⟨Nat.mod_lt _ hp.pos, by show m / 2 < _; omega, h3, ?_⟩, by show m / 2 < m; omega⟩
        show (o + (x + x) % p * (m / 2)) % p = _
        rw [← h4, Nat.add_mod, Nat.mul_mod, Nat.mod_mod, ← Nat.mul_mod, ← Nat.add_mod, hx]
        congr 3
        omega)
    (s := (a, b, 0)) ⟨ha, hb, hp.pos, by simp⟩ hb
  rw [e, bS, hr]
theorem refAdd_ok {p a b : Nat} (hp : Sup p) (h : a + b < 18446744073709551616) : privityref01_Add p a b = some ((a + b) % p) := by
  have hl := hp.lt
  unfold privityref01_Add
  have a1 : addU a b = a + b := Nat.mod_eq_of_lt h
  rw [a1, bS]
  unfold remU
  rw [if_neg (by omega), bS]
section
variable {p : Nat} [NeZero p]
theorem refEval_ok (hp : Sup p) {f : List Nat} {x : Nat} (hf : Lt p f) (hx : x < p) : ∃ y, privityref04_Eval p f x = some y ∧ y < p ∧ o p y = evl (P p f) (o p x) := by
  have hl := hp.lt
  unfold privityref04_Eval
  rw [Nat.sub_zero]
  obtain ⟨⟨a, b⟩, e, h1, h2, h3, h4⟩ := rgS_inv (body := fun k1 (st : Nat × Nat) => privityref04_Eval_L0 p f x k1 st.1 st.2) (rem := f.length) (k := 0) (s := (0, 1))
    (fun k st => st.1 < p ∧ st.2 < p ∧ o p st.1 = sm k (fun j => cf (P p f) j * o p x ^ j) ∧ o p st.2 = o p x ^ k) ⟨hp.pos, by show 1 < p; omega, by show o p 0 = _; rw [o_zero]; rfl, by show o p 1 = _; rw [o_one]; grind⟩ (fun k st _ hk ⟨h1, h2, h3, h4⟩ => by
      have hfk := hf k (by omega)
      have hm := Nat.mod_lt (f.getD k 0 * st.2) hp.pos
      unfold privityref04_Eval_L0
      rw [ix 0 (by omega), bS, refMul_ok hp hfk (by omega), bS, refAdd_ok hp (by omega), bS, refMul_ok hp h2 (by omega), bS]
      refine ⟨_, rfl, Nat.mod_lt _ hp.pos, Nat.mod_lt _ hp.pos, ?_, ?_⟩
      · show o p ((st.1 + f.getD k 0 * st.2 % p) % p) = _
        rw [o_mod, o_add, o_mod, o_mul, h3, h4, sm, P_cf]
      · show o p (st.2 * x % p) = _
        rw [o_mod, o_mul, h4]; grind)
  rw [e, bS]
  refine ⟨a, rfl, h1, ?_⟩
  rw [evl_sm (n := f.length) _ (by rw [P_len]; exact Nat.le_refl _), ← Nat.zero_add f.length]
  exact h3
end
theorem points_ok {w : List Nat} (h : w.length ≤ 100) : ∃ pts, reconstruct_points w = some pts ∧ pts.length = w.length ∧ ∀ i, i < w.length → pts.getD i default = ⟨i + 1, w.getD i 0⟩ := by
  unfold reconstruct_points
  rw [Nat.sub_zero]
  obtain ⟨l, e, h1, h2⟩ := rgS_inv (body := fun k1 (st : (List T_api_Point)) => reconstruct_points_L0 w k1 st) (rem := w.length) (k := 0) (s := ([] : List T_api_Point)) (fun k l => l.length = k ∧ ∀ i, i < k → l.getD i default = ⟨i + 1, w.getD i 0⟩) ⟨rfl, fun i hi => by omega⟩ (fun k l _ hk ⟨h1, h2⟩ => by
    unfold reconstruct_points_L0
    have hu : toU (((k : Nat) : Int) + 1) = k + 1 := by unfold toU; omega
    rw [ix 0 (by omega), bS, addI_some (by omega) (by omega), bS, hu, bS, appO_some (by rw [h1]; simp; omega) (by rw [h1]; simp; omega), bS]
    refine ⟨_, rfl, by simp [h1], fun i hi => ?_⟩
    by_cases g : i < k
    · rw [getD_app_l (by omega)]; exact h2 i g
    · have : i = k := by omega
      subst this
      rw [getD_app_e h1.symm])
  rw [Nat.zero_add] at h1 h2
  rw [e, bS]
  exact ⟨_, rfl, h1, h2⟩
theorem pts_ok {p : Nat} (hp : Sup p) {w : List Nat} {pts : List T_api_Point} (hw : Lt p w) (hl : w.length ≤ 13) (h1 : pts.length = w.length) (h2 : ∀ i, i < w.length → pts.getD i default = ⟨i + 1, w.getD i 0⟩) : Pts p pts := by
  have hlt := hp.lt
  refine ⟨fun i hi => ?_, fun i hi => ?_, fun i hi j hj => ?_⟩
  · rw [h2 i (by omega)]; show i + 1 < p; omega
  · rw [h2 i (by omega)]; exact hw i (by omega)
  · rw [h2 i (by omega), h2 j (by omega)]; show j + 1 ≠ i + 1; omega
/-- what party j heard of the k-th words -/
def wd (all : List (List (List Nat))) (n j k : Nat) : List Nat := (List.range n).map fun i => ((all.getD i []).getD j []).getD k 0
theorem wd_len {all : List (List (List Nat))} {n j k : Nat} : (wd all n j k).length = n := by simp [wd]
theorem wd_get {all : List (List (List Nat))} {n j k i : Nat} (hi : i < n) : (wd all n j k).getD i 0 = ((all.getD i []).getD j []).getD k 0 := by
  unfold wd; simp [List.getD_eq_getElem?_getD, hi]
end Pu
