/- Elimination of Gauss and Jordan over a commutative ring: what it keeps. Plain Lean, no program. -/
import Derived.Test.YtclhpomlfadohaaGreatDoorSp8
set_option linter.unusedVariables false
namespace Sp
open Lean.Grind
section
variable {R : Type} [CommRing R]
def sm : Nat → (Nat → R) → R
  | 0, _ => 0
  | n + 1, f => sm n f + f n
theorem sm_congr {n : Nat} {f g : Nat → R} (h : ∀ j, j < n → f j = g j) : sm n f = sm n g := by
  induction n with
  | zero => rfl
  | succ n ih => simp only [sm]; rw [ih (fun j hj => h j (by omega)), h n (by omega)]
theorem sm_zero {n : Nat} {f : Nat → R} (h : ∀ j, j < n → f j = 0) : sm n f = 0 := by
  induction n with
  | zero => rfl
  | succ n ih => simp only [sm]; rw [ih (fun j hj => h j (by omega)), h n (by omega)]; grind
theorem sm_add {n : Nat} (f g : Nat → R) : sm n (fun j => f j + g j) = sm n f + sm n g := by
  induction n with
  | zero => simp only [sm]; grind
  | succ n ih => simp only [sm, ih]; grind
theorem sm_mul {n : Nat} (k : R) (f : Nat → R) : sm n (fun j => k * f j) = k * sm n f := by
  induction n with
  | zero => simp only [sm]; grind
  | succ n ih => simp only [sm, ih]; grind
/-- one place more -/
theorem sm_upd {n c : Nat} (hc : c < n) (f g : Nat → R) (x : R) (hx : g c = x + f c) (h : ∀ j, j < n → j ≠ c → g j = f j) : sm n g = sm n f + x := by
  induction n with
  | zero => omega
  | succ n ih =>
    simp only [sm]
    by_cases e : c = n
    · subst e
      rw [sm_congr (f := g) (g := f) (fun j hj => h j (by omega) (by omega)), hx]; grind
    · rw [ih (by omega) (fun j hj hne => h j (by omega) hne), h n (by omega) (fun z => e z.symm)]; grind
def dot (n : Nat) (row v : Nat → R) : R := sm n (fun j => row j * v j)
theorem dot_lin {n : Nat} (a b v : Nat → R) (k : R) : dot n (fun j => a j + k * b j) v = dot n a v + k * dot n b v := by
  unfold dot
  rw [← sm_mul, ← sm_add]
  exact sm_congr fun j _ => by grind
theorem dot_scale {n : Nat} (a v : Nat → R) (k : R) : dot n (fun j => k * a j) v = k * dot n a v := by
  unfold dot
  rw [← sm_mul]
  exact sm_congr fun j _ => by grind
theorem dot_congr {n : Nat} {a b v : Nat → R} (h : ∀ j, j < n → a j = b j) : dot n a v = dot n b v := sm_congr fun j hj => by rw [h j hj]
def Sol (h n : Nat) (M : Nat → Nat → R) (v : Nat → R) : Prop := ∀ i, i < h → dot n (M i) v = M i n
structure Red (h n : Nat) (M0 M : Nat → Nat → R) (k : Nat) (piv : Nat → Nat) (c : Nat) : Prop where
  sol : ∀ v, Sol h n M0 v ↔ Sol h n M v
  len : k ≤ h
  lt : ∀ r, r < k → piv r < c
  cn : c ≤ n
  unit : ∀ r, r < k → ∀ i, i < h → M i (piv r) = if i = r then 1 else 0
  low : ∀ i, k ≤ i → i < h → ∀ j, j < c → M i j = 0
variable {h n k c : Nat} {M0 M M' : Nat → Nat → R} {piv : Nat → Nat}
theorem Red.start : Red h n M0 M0 0 piv 0 := ⟨fun _ => Iff.rfl, by omega, by omega, by omega, by omega, by omega⟩
theorem Red.congr (e : ∀ i, i < h → ∀ j, j ≤ n → M' i j = M i j) (r : Red h n M0 M k piv c) : Red h n M0 M' k piv c := by
  refine ⟨fun v => (r.sol v).trans ?_, r.len, r.lt, r.cn, fun s hs i hi => ?_, fun i h1 h2 j hj => ?_⟩
  · constructor <;> intro g i hi
    · rw [dot_congr (b := M i) (fun j hj => e i hi j (by omega)), e i hi n (by omega)]; exact g i hi
    · rw [← e i hi n (by omega), ← dot_congr (a := M' i) (fun j hj => e i hi j (by omega))]; exact g i hi
  · rw [e i hi _ (by have := r.lt s hs; have := r.cn; omega)]; exact r.unit s hs i hi
  · rw [e i h2 _ (by have := r.cn; omega)]; exact r.low i h1 h2 j hj
theorem Red.skip (r : Red h n M0 M k piv c) (hc : c < n) (z : ∀ i, k ≤ i → i < h → M i c = 0) : Red h n M0 M k piv (c + 1) :=
  ⟨r.sol, r.len, fun s hs => Nat.lt_succ_of_lt (r.lt s hs), hc, r.unit, fun i h1 h2 j hj => by
    by_cases e : j = c
    · subst e; exact z i h1 h2
    · exact r.low i h1 h2 j (by omega)⟩
theorem Red.pivot (r : Red h n M0 M k piv c) (hc : c < n) (one : (1 : R) ≠ 0) {at_ : Nat} (a1 : k ≤ at_) (a2 : at_ < h) {u : R} (hu : u * M at_ c = 1) (hp : piv k = c)
    (hr : ∀ j, j ≤ n → M' k j = u * M at_ j)
    (ho : ∀ i, i < h → i ≠ k → ∀ j, j ≤ n → M' i j = (if i = at_ then M k j else M i j) - (if i = at_ then M k c else M i c) * M' k j) : Red h n M0 M' (k + 1) piv (c + 1) := by
  have kh : k < h := by omega
  let S : Nat → Nat → R := fun i => if i = at_ then M k else if i = k then M at_ else M i
  have hS : ∀ i, i < h → i ≠ k → ∀ j, j ≤ n → M' i j = S i j - S i c * M' k j := fun i h1 h2 j h3 => by
    rw [ho i h1 h2 j h3]
    by_cases e : i = at_
    · simp [S, e]
    · simp [S, e, h2]
  have hSk : ∀ j, j ≤ n → M' k j = u * S k j := fun j h3 => by
    rw [hr j h3]
    by_cases e : k = at_
    · simp [S, e]
    · simp [S, e]
  have hSc : u * S k c = 1 := by
    by_cases e : k = at_
    · subst e; simpa [S] using hu
    · simpa [S, e] using hu
  have solS : ∀ v, Sol h n M v ↔ Sol h n S v := fun v => by
    constructor <;> intro g i hi
    · by_cases e : i = at_
      · have := g k kh; simpa [S, e] using this
      · by_cases e2 : i = k
        · have := g at_ a2
          subst e2; simpa [S, e] using this
        · have := g i hi; simpa [S, e, e2] using this
    · by_cases e : i = at_
      · subst e
        by_cases e2 : k = i
        · subst e2; have := g k kh; simpa [S] using this
        · have := g k kh; simpa [S, e2] using this
      · by_cases e2 : i = k
        · subst e2; have := g at_ a2; simpa [S] using this
        · have := g i hi; simpa [S, e, e2] using this
  have lowS : ∀ i, k ≤ i → i < h → ∀ j, j < c → S i j = 0 := fun i h1 h2 j hj => by
    by_cases e : i = at_
    · simp only [S, if_pos e]; exact r.low k (Nat.le_refl k) kh j hj
    · by_cases e2 : i = k
      · simp only [S, if_neg e, if_pos e2]; exact r.low at_ a1 a2 j hj
      · simp only [S, if_neg e, if_neg e2]; exact r.low i h1 h2 j hj
  have unitS : ∀ s, s < k → ∀ i, i < h → S i (piv s) = if i = s then 1 else 0 := fun s hs i hi => by
    by_cases e : i = at_
    · simp only [S, if_pos e]; rw [r.unit s hs k kh, if_neg (by omega), if_neg (by omega)]
    · by_cases e2 : i = k
      · simp only [S, if_neg e, if_pos e2]; rw [r.unit s hs at_ a2, if_neg (by omega), if_neg (by omega)]
      · simp only [S, if_neg e, if_neg e2]; exact r.unit s hs i hi
  have dk : ∀ v, dot n (M' k) v = u * dot n (S k) v := fun v => by
    rw [dot_congr (b := fun j => u * S k j) (fun j hj => hSk j (by omega)), dot_scale]
  have di : ∀ v i, i < h → i ≠ k → dot n (M' i) v = dot n (S i) v - S i c * dot n (M' k) v := fun v i h1 h2 => by
    rw [dot_congr (b := fun j => S i j + (-(S i c)) * M' k j) (fun j hj => by rw [hS i h1 h2 j (by omega)]; grind), dot_lin]; grind
  refine ⟨fun v => ((r.sol v).trans (solS v)).trans ?_, by omega, ?_, by omega, ?_, ?_⟩
  · constructor
    · intro g i hi
      have g0 := g k kh
      by_cases e : i = k
      · subst e; rw [dk, hSk n (by omega), g0]
      · rw [di v i hi e, hS i hi e n (by omega), dk, g0, g i hi, hSk n (by omega)]
    · intro g
      have g0 := g k kh
      rw [dk, hSk n (by omega)] at g0
      have g1 : dot n (S k) v = S k n := by grind
      intro i hi
      by_cases e : i = k
      · subst e; exact g1
      · have g2 := g i hi
        rw [di v i hi e, hS i hi e n (by omega), g k kh] at g2
        grind
  · intro s hs
    by_cases e : s = k
    · subst e; omega
    · have := r.lt s (by omega); omega
  · intro s hs i hi
    by_cases e : s = k
    · subst e
      rw [hp]
      by_cases e2 : i = s
      · subst e2; rw [if_pos rfl, hSk c (by omega)]; exact hSc
      · rw [if_neg e2, hS i hi e2 c (by omega), hSk c (by omega), hSc]; grind
    · have hs2 : s < k := by omega
      have hl := r.lt s hs2
      have hz : M' k (piv s) = 0 := by
        rw [hSk _ (by omega), unitS s hs2 k kh, if_neg (by omega)]; grind
      by_cases e2 : i = k
      · subst e2; rw [if_neg (by omega)]; exact hz
      · rw [hS i hi e2 _ (by omega), hz, unitS s hs2 i hi]
        split <;> grind
  · intro i h1 h2 j hj
    have e : i ≠ k := by omega
    by_cases e3 : j = c
    · subst e3
      rw [hS i h2 e j (by omega), hSk j (by omega), hSc]; grind
    · rw [hS i h2 e j (by omega), hSk j (by omega), lowS i (by omega) h2 j (by omega), lowS k (by omega) kh j (by omega)]; grind
/-- the solution that is read off: after s pivots -/
def Read (n : Nat) (M : Nat → Nat → R) (piv : Nat → Nat) (s : Nat) (out : Nat → R) : Prop :=
  (∀ j, j < n → (∀ r, r < s → piv r ≠ j) → out j = 0) ∧ ∀ r, r < s → out (piv r) = M r n
theorem Red.distinct (r : Red h n M0 M k piv c) (one : (1 : R) ≠ 0) {a b : Nat} (ha : a < k) (hb : b < k) (e : piv a = piv b) : a = b := by
  apply Classical.byContradiction
  intro g
  have h1 := r.unit a ha a (by have := r.len; omega)
  have h2 := r.unit b hb a (by have := r.len; omega)
  rw [if_pos rfl] at h1
  rw [if_neg g, ← e, h1] at h2
  exact one h2
theorem Red.read_sum (r : Red h n M0 M k piv c) (one : (1 : R) ≠ 0) (i : Nat) (hi : i < h) : ∀ (s : Nat) (out : Nat → R), s ≤ k → Read n M piv s out → dot n (M i) out = if i < s then M i n else 0 := by
  intro s
  induction s with
  | zero =>
    intro out _ hr
    rw [if_neg (by omega)]
    exact sm_zero fun j hj => by rw [hr.1 j hj (by omega)]; grind
  | succ s ih =>
    intro out hs hr
    have hps : piv s < n := by have := r.lt s (by omega); have := r.cn; omega
    let o2 : Nat → R := fun j => if j = piv s then 0 else out j
    have hr2 : Read n M piv s o2 := by
      refine ⟨fun j hj hn => ?_, fun t ht => ?_⟩
      · by_cases e : j = piv s
        · simp [o2, e]
        · simp only [o2, if_neg e]
          refine hr.1 j hj fun t ht => ?_
          by_cases e2 : t = s
          · subst e2; exact fun z => e z.symm
          · exact hn t (by omega)
      · have : piv t ≠ piv s := fun z => by have := r.distinct one (by omega) (by omega) z; omega
        simp only [o2, if_neg this]
        exact hr.2 t (by omega)
    have := ih o2 (by omega) hr2
    unfold dot at this ⊢
    rw [sm_upd hps (fun j => M i j * o2 j) (fun j => M i j * out j) (M i (piv s) * M s n) (by simp only [o2, if_pos]; rw [hr.2 s (by omega)]; grind) (fun j hj hne => by simp only [o2, if_neg hne]), this, r.unit s (by omega) i hi]
    by_cases e : i = s
    · subst e; rw [if_neg (by omega), if_pos rfl, if_pos (by omega)]; grind
    · rw [if_neg e]
      by_cases e2 : i < s
      · rw [if_pos e2, if_pos (by omega)]; grind
      · rw [if_neg e2, if_neg (by omega)]; grind
/-- the end: solved -/
theorem Red.solved (r : Red h n M0 M k piv n) (one : (1 : R) ≠ 0) {out : Nat → R} (hr : Read n M piv k out) (z : ∀ i, k ≤ i → i < h → M i n = 0) : Sol h n M0 out := by
  rw [r.sol]
  intro i hi
  rw [r.read_sum one i hi k out (Nat.le_refl k) hr]
  split
  · rfl
  · next g => exact (z i (by omega) hi).symm
/-- the end: where there is a solution nothing is left over -/
theorem Red.rest (r : Red h n M0 M k piv n) {v : Nat → R} (hv : Sol h n M0 v) {i : Nat} (h1 : k ≤ i) (h2 : i < h) : M i n = 0 := by
  have := (r.sol v).1 hv i h2
  rw [← this]
  exact sm_zero fun j hj => by rw [r.low i h1 h2 j hj]; grind
end
end Sp
