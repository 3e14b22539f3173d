/- The equations of Berlekamp and Welch: what a solution says, and that there is one. Plain Lean, no program. -/
import Derived.Test.YtclhpomlfadohaaGreatDoorSp10
set_option linter.unusedVariables false
namespace Sp
open Lean.Grind
section
variable {R : Type} [CommRing R]
theorem sm_shift {n : Nat} (f : Nat → R) : sm (n + 1) f = f 0 + sm n (fun j => f (j + 1)) := by
  induction n with
  | zero => simp only [sm]; grind
  | succ n ih => rw [sm, ih, sm]; grind
theorem sm_cat {m n : Nat} (f : Nat → R) : sm (m + n) f = sm m f + sm n (fun j => f (m + j)) := by
  induction n with
  | zero => simp only [Nat.add_zero, sm]; grind
  | succ n ih => rw [← Nat.add_assoc, sm, ih, sm]; grind
theorem evl_sm {n : Nat} {f : List R} (x : R) (h : f.length ≤ n) : evl f x = sm n (fun j => cf f j * x ^ j) := by
  induction f generalizing n with
  | nil => rw [sm_zero (fun j _ => by rw [cf_nil]; grind)]; rfl
  | cons a f ih =>
    cases n with
    | zero => simp at h
    | succ n =>
      rw [sm_shift, evl, ih (n := n) (by simpa using h), ← sm_mul, cf_zero]
      rw [sm_congr (f := fun j => x * (cf f j * x ^ j)) (g := fun j => cf (a :: f) (j + 1) * x ^ (j + 1)) (fun j _ => by rw [cf_succ]; grind)]
      grind
/-- a row of the equations -/
def bwRow (deg w : Nat) (x y : R) (j : Nat) : R :=
  if j < deg + w + 1 then x ^ j else if j < deg + w + 1 + w then -(y * x ^ (j - (deg + w + 1))) else y * x ^ w
theorem bw_dot {deg w : Nat} {x y : R} {v : Nat → R} {q e : List R} (hq : q.length = deg + w + 1) (he : e.length = w + 1) (h1 : cf e w = 1) (hqv : ∀ j, j < deg + w + 1 → v j = cf q j) (hev : ∀ k, k < w → v (deg + w + 1 + k) = cf e k) :
    dot (deg + w + 1 + w) (bwRow deg w x y) v = bwRow deg w x y (deg + w + 1 + w) ↔ evl q x = y * evl e x := by
  have a1 : dot (deg + w + 1 + w) (bwRow deg w x y) v = evl q x - y * sm w (fun k => cf e k * x ^ k) := by
    unfold dot
    rw [sm_cat, sm_congr (f := fun j => bwRow deg w x y j * v j) (g := fun j => cf q j * x ^ j) (fun j hj => by rw [hqv j hj, bwRow, if_pos hj]; grind), ← evl_sm x (Nat.le_of_eq hq)]
    rw [sm_congr (f := fun j => bwRow deg w x y (deg + w + 1 + j) * v (deg + w + 1 + j)) (g := fun j => (-y) * (cf e j * x ^ j)) (fun j hj => by
      rw [hev j hj, bwRow, if_neg (by omega), if_pos (by omega), Nat.add_sub_cancel_left]; grind), sm_mul]
    grind
  have a2 : bwRow deg w x y (deg + w + 1 + w) = y * x ^ w := by rw [bwRow, if_neg (by omega), if_neg (by omega)]
  have a3 : evl e x = sm w (fun k => cf e k * x ^ k) + x ^ w := by
    rw [evl_sm x (Nat.le_of_eq he), sm, h1]; grind
  rw [a1, a2, a3]
  constructor <;> intro h <;> grind
/-- a monic polynomial of degree w with given roots -/
theorem monic : ∀ (w : Nat) (rs : List R), rs.length ≤ w → ∃ e : List R, e.length = w + 1 ∧ cf e w = 1 ∧ ∀ x ∈ rs, evl e x = 0 := by
  intro w
  induction w with
  | zero => intro rs h; have : rs = [] := List.eq_nil_of_length_eq_zero (by omega); subst this; exact ⟨[1], rfl, rfl, by simp⟩
  | succ w ih =>
    intro rs h
    have key : ∀ (r : R) (rs : List R), rs.length ≤ w → ∃ e : List R, e.length = w + 1 + 1 ∧ cf e (w + 1) = 1 ∧ evl e r = 0 ∧ ∀ x ∈ rs, evl e x = 0 := by
      intro r rs h
      obtain ⟨e, h1, h2, h3⟩ := ih rs h
      refine ⟨psub (0 :: e) (smul r e), by rw [psub_len, smul_len]; simp; omega, by rw [cf_psub, cf_smul, cf_succ, h2, cf_ge (by omega)]; grind, by rw [evl_psub, evl_smul, evl]; grind, fun x hx => by rw [evl_psub, evl_smul, evl, h3 x hx]; grind⟩
    cases rs with
    | nil =>
      obtain ⟨e, h1, h2, _, h3⟩ := key 0 [] (by simp)
      exact ⟨e, h1, h2, h3⟩
    | cons r rs =>
      obtain ⟨e, h1, h2, h4, h3⟩ := key r rs (by simpa using h)
      refine ⟨e, h1, h2, fun x hx => ?_⟩
      rcases List.mem_cons.1 hx with rfl | hx
      · exact h4
      · exact h3 x hx
theorem bw_exists {deg w : Nat} {f0 bad : List R} (h0 : f0.length ≤ deg + 1) (hb : bad.length ≤ w) :
    ∃ v : Nat → R, ∀ x y : R, (x ∈ bad ∨ y = evl f0 x) → dot (deg + w + 1 + w) (bwRow deg w x y) v = bwRow deg w x y (deg + w + 1 + w) := by
  obtain ⟨e, he, h1, hz⟩ := monic w bad hb
  let q0 := pmul f0 e
  let q : List R := (List.range (deg + w + 1)).map (cf q0)
  have hq0 : q0.length ≤ deg + w + 1 := by have := pmul_len1 f0 e (by omega); show (pmul f0 e).length ≤ _; omega
  have hq : q.length = deg + w + 1 := by simp [q]
  have hqc : ∀ i, cf q i = cf q0 i := fun i => by
    by_cases g : i < deg + w + 1
    · simp only [q]; unfold cf; simp [g]
    · rw [cf_ge (by omega), cf_ge (by omega)]
  refine ⟨fun j => if j < deg + w + 1 then cf q j else cf e (j - (deg + w + 1)), fun x y hxy => ?_⟩
  rw [bw_dot (q := q) (e := e) hq he h1 (fun j hj => if_pos hj) (fun k hk => by rw [if_neg (by omega), Nat.add_sub_cancel_left])]
  rw [evl_congr hqc]
  show evl (pmul f0 e) x = _
  rw [evl_pmul]
  rcases hxy with g | g
  · rw [hz x g]; grind
  · rw [g]
end
end Sp
