/- Plain laws of the elimination. -/
import Derived.Test.YtclhpomlfadohaaGreatDoorPb1
set_option linter.unusedVariables false
namespace Pu
open Gw Gl Sp Lean.Grind
structure Mat (p h n : Nat) (l : List (List Nat)) : Prop where
  len : l.length = h
  row : ∀ i, i < h → (l.getD i []).length = n
  lt : ∀ i, i < h → ∀ j, j < n → (l.getD i []).getD j 0 < p
def G (p : Nat) [NeZero p] (l : List (List Nat)) (i j : Nat) : Fin p := o p ((l.getD i []).getD j 0)
theorem clone_ok {l : List Nat} (h : l.length ≤ 1000) : slices_Clone_Luint64_uint64 l = some l := by
  unfold slices_Clone_Luint64_uint64
  rw [appO_some (by simp; omega) (by simp; omega), bS, List.nil_append]
theorem clones_ok {l : List (List Nat)} (h : l.length ≤ 1000) : slices_Clone_LLuint64_Luint64 l = some l := by
  unfold slices_Clone_LLuint64_Luint64
  rw [appO_some (by simp; omega) (by simp; omega), bS, List.nil_append]
theorem set_getD_self {α : Type} {l : List α} {k : Nat} {d : α} (h : k < l.length) : l.set k (l.getD k d) = l := by
  apply List.ext_getElem?
  intro i
  rw [List.getElem?_set]
  split
  · next e =>
    subst e
    simp [h]
  · rfl
theorem Mat.some {p h n i : Nat} {l : List (List Nat)} (m : Mat p h n l) (hi : i < h) : l[i]? = some (l.getD i []) := ix [] (by rw [m.len]; exact hi)
theorem rd {p h n i j : Nat} {l : List (List Nat)} (m : Mat p h n l) (hi : i < h) (hj : j < n) : (l.getD i [])[j]? = some ((l.getD i []).getD j 0) := ix 0 (by rw [m.row i hi]; exact hj)
theorem Mat.setRow {p h n i : Nat} {l : List (List Nat)} {r : List Nat} (m : Mat p h n l) (hi : i < h) (hl : r.length = n) (hr : ∀ j, j < n → r.getD j 0 < p) : Mat p h n (l.set i r) := by
  have hil : i < l.length := by rw [m.len]; exact hi
  refine ⟨by rw [List.length_set]; exact m.len, fun k hk => ?_, fun k hk j hj => ?_⟩
  · rw [getD_set hil]; split
    · exact hl
    · exact m.row k hk
  · rw [getD_set hil]; split
    · exact hr j hj
    · exact m.lt k hk j hj
section
variable {p : Nat} [NeZero p] {h n : Nat}
/-- the pivot's row is scaled -/
theorem scale_ok (hp : Sup p) {l8 : List (List Nat)} {l5 : List Int} {u : Nat} {e : Int} (m : Mat p h n l8) (hr : l5.length < h) (hu : u < p) :
    ∃ l, rgS (fun k3 (st : (List (List Nat))) => matrix_reduce_L3 p l5 (l8.getD l5.length []) (u, e) k3 st) n 0 l8 = some l ∧ Mat p h n l ∧ (∀ i, i < h → i ≠ l5.length → l.getD i [] = l8.getD i []) ∧ ∀ j, j < n → G p l l5.length j = o p u * G p l8 l5.length j := by
  have hrl := m.row _ hr
  obtain ⟨l, e, m1, h1, h2, _⟩ := rgS_inv (body := fun k3 (st : (List (List Nat))) => matrix_reduce_L3 p l5 (l8.getD l5.length []) (u, e) k3 st) (rem := n) (k := 0) (s := l8)
    (fun k l => Mat p h n l ∧ (∀ i, i < h → i ≠ l5.length → l.getD i [] = l8.getD i []) ∧ (∀ j, j < k → j < n → G p l l5.length j = o p u * G p l8 l5.length j) ∧ (∀ j, k ≤ j → (l.getD l5.length []).getD j 0 = (l8.getD l5.length []).getD j 0))
    ⟨m, fun _ _ _ => rfl, fun j hj => by omega, fun _ _ => rfl⟩ (fun k l _ hk ⟨m1, h1, h2, h3⟩ => by
      have hk' : k < n := by omega
      unfold matrix_reduce_L3
      rw [rd m hr hk', bS, m1.some hr, bS, rd m1 hr hk', bS, mul_ok hp hu (m1.lt _ hr _ hk'), bS, bS, bS]
      have hrl1 := m1.row _ hr
      have hll : l5.length < l.length := by rw [m1.len]; exact hr
      refine ⟨_, rfl, m1.setRow hr (by rw [List.length_set]; exact hrl1) (fun j hj => ?_), fun i hi hne => ?_, fun j hj hjn => ?_, fun j hj => ?_⟩
      · rw [getD_set (by rw [hrl1]; exact hk')]; split
        · exact Nat.mod_lt _ hp.pos
        · exact m1.lt _ hr _ hj
      · rw [getD_set hll, if_neg (fun e => hne e.symm)]; exact h1 i hi hne
      · show o p (((l.set _ _).getD l5.length []).getD j 0) = _
        rw [getD_set hll, if_pos rfl, getD_set (by rw [hrl1]; exact hk')]
        by_cases g : k = j
        · subst g
          rw [if_pos rfl, o_mod, o_mul, h3 k (Nat.le_refl k)]; rfl
        · rw [if_neg g]; exact h2 j (by omega) hjn
      · rw [getD_set hll, if_pos rfl, getD_set (by rw [hrl1]; exact hk'), if_neg (by omega)]; exact h3 j (by omega))
  exact ⟨l, e, m1, h1, fun j hj => h2 j (by omega) hj⟩
/-- one row is cleared -/
theorem clear_ok (hp : Sup p) {l : List (List Nat)} {l5 : List Int} {i c : Nat} (m : Mat p h n l) (hr : l5.length < h) (hi : i < h) (hne : i ≠ l5.length) (hc : c < n) :
    ∃ l', rgS (fun k5 (st : (List (List Nat))) => matrix_reduce_L5 p l5 i (l.getD i []) ((l.getD i []).getD c 0) (l.getD l5.length []) k5 st) n 0 l = some l' ∧ Mat p h n l' ∧ (∀ k, k < h → k ≠ i → l'.getD k [] = l.getD k []) ∧ ∀ j, j < n → G p l' i j = G p l i j - G p l i c * G p l l5.length j := by
  have hil := m.row _ hi
  obtain ⟨l', e, m1, h1, h2, _⟩ := rgS_inv (body := fun k5 (st : (List (List Nat))) => matrix_reduce_L5 p l5 i (l.getD i []) ((l.getD i []).getD c 0) (l.getD l5.length []) k5 st) (rem := n) (k := 0) (s := l)
    (fun k l' => Mat p h n l' ∧ (∀ k, k < h → k ≠ i → l'.getD k [] = l.getD k []) ∧ (∀ j, j < k → j < n → G p l' i j = G p l i j - G p l i c * G p l l5.length j) ∧ (∀ j, k ≤ j → (l'.getD i []).getD j 0 = (l.getD i []).getD j 0))
    ⟨m, fun _ _ _ => rfl, fun j hj => by omega, fun _ _ => rfl⟩ (fun k l' _ hk ⟨m1, h1, h2, h3⟩ => by
      have hk' : k < n := by omega
      have hil1 := m1.row _ hi
      have hll : i < l'.length := by rw [m1.len]; exact hi
      unfold matrix_reduce_L5
      rw [rd m hr hk', bS, m1.some hr, bS, h1 _ hr (fun e => hne e.symm), rd m hr hk', bS, rd m hi hk', bS, m1.some hi, bS, rd m1 hi hk', bS, mul_ok hp (m.lt _ hi _ hc) (m.lt _ hr _ hk'), bS, sub_ok hp (m1.lt _ hi _ hk') (Nat.mod_lt _ hp.pos), bS, bS, bS]
      refine ⟨_, rfl, m1.setRow hi (by rw [List.length_set]; exact hil1) (fun j hj => ?_), fun q hq hqi => ?_, fun j hj hjn => ?_, fun j hj => ?_⟩
      · rw [getD_set (by rw [hil1]; exact hk')]; split
        · exact Nat.mod_lt _ hp.pos
        · exact m1.lt _ hi _ hj
      · rw [getD_set hll, if_neg (fun e => hqi e.symm)]; exact h1 q hq hqi
      · show o p (((l'.set _ _).getD i []).getD j 0) = _
        rw [getD_set hll, if_pos rfl, getD_set (by rw [hil1]; exact hk')]
        by_cases g : k = j
        · subst g
          rw [if_pos rfl, o_sub' (Nat.mod_lt _ hp.pos), o_mod, o_mul, h3 k (Nat.le_refl k)]; rfl
        · rw [if_neg g]; exact h2 j (by omega) hjn
      · rw [getD_set hll, if_pos rfl, getD_set (by rw [hil1]; exact hk'), if_neg (by omega)]; exact h3 j (by omega))
  exact ⟨l', e, m1, h1, fun j hj => h2 j (by omega) hj⟩
/-- all other rows are cleared -/
theorem sweep_ok (hp : Sup p) {l : List (List Nat)} {l5 : List Int} {c : Nat} (m : Mat p h n l) (hr : l5.length < h) (hc : c < n) (hn : n ≤ 1000) :
    ∃ l', rgS (fun k4 (st : (List (List Nat))) => matrix_reduce_L4 p l5 c k4 st) h 0 l = some l' ∧ Mat p h n l' ∧ (∀ j, j < n → G p l' l5.length j = G p l l5.length j) ∧ ∀ i, i < h → i ≠ l5.length → ∀ j, j < n → G p l' i j = G p l i j - G p l i c * G p l l5.length j := by
  obtain ⟨l', e, m1, h1, h2, h3⟩ := rgS_inv (body := fun k4 (st : (List (List Nat))) => matrix_reduce_L4 p l5 c k4 st) (rem := h) (k := 0) (s := l)
    (fun k l' => Mat p h n l' ∧ (l'.getD l5.length [] = l.getD l5.length []) ∧ (∀ i, i < k → i < h → i ≠ l5.length → ∀ j, j < n → G p l' i j = G p l i j - G p l i c * G p l l5.length j) ∧ (∀ i, k ≤ i → l'.getD i [] = l.getD i []))
    ⟨m, rfl, fun i hi => by omega, fun _ _ => rfl⟩ (fun k l' _ hk ⟨m1, h1, h2, h3⟩ => by
      have hk' : k < h := by omega
      unfold matrix_reduce_L4
      rw [m1.some hk', bS]
      by_cases g : k = l5.length
      · rw [eT (by omega), cT, bS, cT]
        refine ⟨_, rfl, m1, h1, fun i hi hih hne j hj => h2 i (by omega) hih hne j hj, fun i hi => h3 i (by omega)⟩
      · rw [eF (by omega), cF, rd m1 hk' hc, bS, bS]
        by_cases g2 : (l'.getD k []).getD c 0 = 0
        · rw [eT (by omega), cT]
          refine ⟨_, rfl, m1, h1, fun i hi hih hne j hj => ?_, fun i hi => h3 i (by omega)⟩
          by_cases e : i = k
          · subst e
            have z : G p l i c = 0 := by
              show o p ((l.getD i []).getD c 0) = 0
              rw [← h3 i (Nat.le_refl i), g2, o_zero]
            have y : G p l' i j = G p l i j := by
              show o p ((l'.getD i []).getD j 0) = o p ((l.getD i []).getD j 0)
              rw [h3 i (Nat.le_refl i)]
            rw [z, y]; grind
          · exact h2 i (by omega) hih hne j hj
        · rw [eF (by omega), cF, bS, m1.some hr, bS, m1.row _ hr, ckN_some (by omega), bS]
          obtain ⟨l2, e2, m2, k1, k2⟩ := clear_ok hp (l5 := l5) (i := k) (c := c) m1 hr hk' g hc
          rw [Nat.sub_zero, e2, bS]
          refine ⟨_, rfl, m2, ?_, fun i hi hih hne j hj => ?_, fun i hi => ?_⟩
          · rw [k1 _ hr (fun e => g e.symm)]; exact h1
          · by_cases e : i = k
            · subst e
              rw [k2 j hj]
              have y : ∀ q, G p l' i q = G p l i q := fun q => by
                show o p ((l'.getD i []).getD q 0) = o p ((l.getD i []).getD q 0)
                rw [h3 i (Nat.le_refl i)]
              have y2 : G p l' l5.length j = G p l l5.length j := by
                show o p ((l'.getD l5.length []).getD j 0) = o p ((l.getD l5.length []).getD j 0)
                rw [h1]
              rw [y, y, y2]
            · have := h2 i (by omega) hih hne j hj
              rw [← this]
              show o p ((l2.getD i []).getD j 0) = o p ((l'.getD i []).getD j 0)
              rw [k1 i hih e]
          · by_cases hih : i < h
            · rw [k1 i hih (by omega)]; exact h3 i (by omega)
            · have a1 : l2.length ≤ i := by rw [m2.len]; omega
              have a2 : l.length ≤ i := by rw [m.len]; omega
              rw [List.getD_eq_getElem?_getD, List.getElem?_eq_none a1, List.getD_eq_getElem?_getD, List.getElem?_eq_none a2])
  exact ⟨l', e, m1, fun j hj => by show o p ((l'.getD l5.length []).getD j 0) = o p ((l.getD l5.length []).getD j 0); rw [h1], fun i hi hne j hj => h2 i (by omega) hi hne j hj⟩
end
/-- the search for a pivot -/
theorem find_ok {p h n : Nat} {l : List (List Nat)} {r c : Nat} (m : Mat p h n l) (hr : r ≤ h) (hc : c < n) (hh : h ≤ 1000) :
    ∃ x, lpO (fun (st : Int × Int) => matrix_reduce_L2 l c st.1 st.2) big ((-1), ((r : Nat) : Int)) = some x ∧ ((x = -1 ∧ ∀ i, r ≤ i → i < h → (l.getD i []).getD c 0 = 0) ∨ ∃ a : Nat, x = a ∧ r ≤ a ∧ a < h ∧ (l.getD a []).getD c 0 ≠ 0) := by
  obtain ⟨x, e, hx⟩ := lpO_big (step := fun (st : Int × Int) => matrix_reduce_L2 l c st.1 st.2)
    (fun st => ∃ k : Nat, st.2 = k ∧ k ≤ h ∧ ((st.1 = -1 ∧ r ≤ k ∧ ∀ i, r ≤ i → i < k → (l.getD i []).getD c 0 = 0) ∨ ∃ a : Nat, st.1 = a ∧ r ≤ a ∧ a < h ∧ (l.getD a []).getD c 0 ≠ 0))
    (fun x => (x = -1 ∧ ∀ i, r ≤ i → i < h → (l.getD i []).getD c 0 = 0) ∨ ∃ a : Nat, x = a ∧ r ≤ a ∧ a < h ∧ (l.getD a []).getD c 0 ≠ 0)
    (fun st => h - st.2.toNat) (fun st ⟨k, h1, h2, h3⟩ => by
      obtain ⟨x6, x7⟩ := st
      simp only at h1 h3
      subst h1
      unfold matrix_reduce_L2
      rw [m.len]
      by_cases c1 : k < h
      · rw [dT (by omega), cT]
        rcases h3 with ⟨rfl, g1, g2⟩ | ⟨a, rfl, g⟩
        · rw [dT (by omega), bS, cT, idx_getD [] (by omega) (by rw [m.len]; omega), bS]
          simp only [Int.toNat_natCast]
          rw [rd m c1 hc, bS]
          by_cases z : (l.getD k []).getD c 0 = 0
          · rw [qF (by omega), cF, addI_some (by omega) (by omega), bS]
            refine ⟨_, rfl, ⟨k + 1, rfl, by omega, .inl ⟨rfl, by omega, fun i hi1 hi2 => ?_⟩⟩, by show h - ((k : Int) + 1).toNat < h - ((k : Int)).toNat; omega⟩
            by_cases e : i = k
            · subst e; exact z
            · exact g2 i hi1 (by omega)
          · rw [qT (by omega), cT, addI_some (by omega) (by omega), bS]
            exact ⟨_, rfl, ⟨k + 1, rfl, by omega, .inr ⟨k, rfl, g1, c1, z⟩⟩, by show h - ((k : Int) + 1).toNat < h - ((k : Int)).toNat; omega⟩
        · rw [dF (by omega), bS, cF]
          exact ⟨_, rfl, .inr ⟨a, rfl, g⟩⟩
      · rw [dF (by omega), cF, bS, cF]
        refine ⟨_, rfl, ?_⟩
        rcases h3 with ⟨rfl, g1, g2⟩ | g
        · exact .inl ⟨rfl, fun i hi1 hi2 => g2 i hi1 (by omega)⟩
        · exact .inr g) (s := ((-1), ((r : Nat) : Int))) ⟨r, rfl, hr, .inl ⟨rfl, Nat.le_refl r, fun i a b => by omega⟩⟩ (by show h - _ < _; omega)
  exact ⟨x, e, hx⟩
section
variable {p : Nat} [NeZero p] {h n : Nat}
def pv (l5 : List Int) (r : Nat) : Nat := (l5.getD r 0).toNat
/-- one column -/
theorem column_ok (hp : Sup p) {M0 : Nat → Nat → Fin p} {l4 : List (List Nat)} {l5 : List Int} {c x3 : Nat} (m : Mat p h (n + 1) l4) (hc : c < n) (hn : n ≤ 900) (hh : h ≤ 900) (h5 : l5.length ≤ h) (hx : x3 < p)
    (h0 : ∀ r, r < l5.length → l5.getD r 0 = ((pv l5 r : Nat) : Int)) (red : Red h n M0 (G p l4) l5.length (pv l5) c) :
    ∃ l l' x, matrix_reduce_L1 p c l4 l5 x3 = some (l, l', x) ∧ Mat p h (n + 1) l ∧ l'.length ≤ h ∧ x < p ∧ (∀ r, r < l'.length → l'.getD r 0 = ((pv l' r : Nat) : Int)) ∧ Red h n M0 (G p l) l'.length (pv l') (c + 1) := by
  unfold matrix_reduce_L1
  obtain ⟨x9, e9, hx9⟩ := find_ok (c := c) m h5 (by omega) (by omega)
  rw [e9, bS]
  rcases hx9 with ⟨rfl, hz⟩ | ⟨a, rfl, a1, a2, a3⟩
  · rw [dT (by omega), cT]
    exact ⟨_, _, _, rfl, m, h5, hx, h0, red.skip hc fun i hi1 hi2 => by show o p _ = 0; rw [hz i hi1 hi2, o_zero]⟩
  · rw [dF (by omega), cF]
    have hr : l5.length < h := by omega
    -- the rows as they stand behind the swap
    obtain ⟨l8, x15, e8, m8, hx15, r8⟩ : ∃ l8 x15, (bif ((a : Nat) : Int) != ((l5.length : Nat) : Int) then
        l4[l5.length]? >>= fun x16 =>
        idx l4 ((a : Nat) : Int) >>= fun x17 =>
        some ((l4.set ((a : Nat) : Int).toNat x16).set l5.length x17) >>= fun l9 =>
        field_Neg p x3 >>= fun r6 =>
        some (l9, r6)
      else
        some (l4, x3)) = some (l8, x15) ∧ Mat p h (n + 1) l8 ∧ x15 < p ∧ ∀ i, i < h → l8.getD i [] = if i = l5.length then l4.getD a [] else if i = a then l4.getD l5.length [] else l4.getD i [] := by
      by_cases e : a = l5.length
      · rw [qF (by omega), cF]
        refine ⟨_, _, rfl, m, hx, fun i hi => ?_⟩
        subst e
        by_cases g : i = l5.length
        · rw [if_pos g, g]
        · rw [if_neg g, if_neg g]
      · rw [qT (by omega), cT, m.some hr, bS, idx_getD [] (by omega) (by rw [m.len]; omega), bS, bS, neg_ok hp hx, bS]
        simp only [Int.toNat_natCast]
        have m1 := m.setRow (i := a) a2 (m.row _ hr) (m.lt _ hr)
        have m2 := m1.setRow (i := l5.length) hr (m.row _ a2) (m.lt _ a2)
        refine ⟨_, _, rfl, m2, Nat.mod_lt _ hp.pos, fun i hi => ?_⟩
        rw [getD_set (by rw [List.length_set, m.len]; exact hr), getD_set (by rw [m.len]; exact a2)]
        by_cases g : i = l5.length
        · rw [if_pos g.symm, if_pos g]
        · rw [if_neg (fun e => g e.symm), if_neg g]
          by_cases g2 : i = a
          · rw [if_pos g2.symm, if_pos g2]
          · rw [if_neg (fun e => g2 e.symm), if_neg g2]
    rw [e8, bS]
    simp only
    have hcn : c < n + 1 := by omega
    have hgc : (l8.getD l5.length []).getD c 0 = (l4.getD a []).getD c 0 := by rw [r8 _ hr, if_pos rfl]
    have hlt : (l4.getD a []).getD c 0 < p := m.lt _ a2 _ hcn
    rw [m8.some hr, bS, rd m8 hr hcn, bS, hgc, mul_ok hp hx15 hlt, bS, inv_ok hp hlt a3, bS, m8.row _ hr, ckN_some (by omega), bS, Nat.sub_zero]
    obtain ⟨l11, e11, m11, s1, s2⟩ := scale_ok (e := 0) hp (l5 := l5) m8 hr (pow_lt (a := (l4.getD a []).getD c 0) (b := p - 2) hp)
    rw [e11, bS, m11.len, Nat.sub_zero]
    obtain ⟨l15, e15, m15, t1, t2⟩ := sweep_ok hp (l5 := l5) m11 hr hcn (by omega)
    rw [e15, bS, appO_some (by simp; omega) (by simp; omega), bS]
    have hpv : ∀ r, r < l5.length → pv (l5 ++ [((c : Nat) : Int)]) r = pv l5 r := fun r hr => by
      unfold pv; rw [List.getD_eq_getElem?_getD, List.getElem?_append_left hr, ← List.getD_eq_getElem?_getD]
    have hpc : pv (l5 ++ [((c : Nat) : Int)]) l5.length = c := by unfold pv; simp
    refine ⟨_, _, _, rfl, m15, by simp; omega, Nat.mod_lt _ hp.pos, fun r hr2 => ?_, ?_⟩
    · simp only [List.length_append, List.length_cons, List.length_nil] at hr2
      by_cases g : r = l5.length
      · subst g; rw [hpc]; simp
      · rw [hpv r (by omega), ← h0 r (by omega)]
        rw [List.getD_eq_getElem?_getD, List.getElem?_append_left (by omega), ← List.getD_eq_getElem?_getD]
    · have red2 : Red h n M0 (G p l4) l5.length (pv (l5 ++ [((c : Nat) : Int)])) c :=
        ⟨red.sol, red.len, fun s hs => by rw [hpv s hs]; exact red.lt s hs, red.cn, fun s hs i hi => by rw [hpv s hs]; exact red.unit s hs i hi, red.low⟩
      have G8 : ∀ i, i < h → ∀ j, G p l8 i j = if i = l5.length then G p l4 a j else if i = a then G p l4 l5.length j else G p l4 i j := fun i hi j => by
        show o p ((l8.getD i []).getD j 0) = _
        rw [r8 i hi]
        split
        · rfl
        · split <;> rfl
      have G11 : ∀ i, i < h → i ≠ l5.length → ∀ j, G p l11 i j = G p l8 i j := fun i hi hne j => by
        show o p ((l11.getD i []).getD j 0) = o p ((l8.getD i []).getD j 0)
        rw [s1 i hi hne]
      have red3 := red2.pivot hc hp.one a1 a2 (u := o p (pow p ((l4.getD a []).getD c 0) (p - 2))) (M' := G p l15)
        (hp.oinv (by rw [Nat.mod_eq_of_lt hlt]; exact a3)) hpc
        (fun j hj => by rw [t1 j (by omega), s2 j (by omega), G8 _ hr, if_pos rfl])
        (fun i hi hne j hj => by
          rw [t2 i hi hne j (by omega), t1 j (by omega), G11 i hi hne, G11 i hi hne, G8 i hi, G8 i hi, if_neg hne, if_neg hne]
          )
      rw [List.length_append]
      exact red3
/-- all columns -/
theorem reduce_mat (hp : Sup p) {l : List (List Nat)} (m : Mat p h (n + 1) l) (hn : n ≤ 900) (hh : h ≤ 900) :
    ∃ w, matrix_reduce p l ((n : Nat) : Int) = some w ∧ Mat p h (n + 1) w.zm ∧ w.zpivot.length ≤ h ∧ (∀ r, r < w.zpivot.length → w.zpivot.getD r 0 = ((pv w.zpivot r : Nat) : Int)) ∧ Red h n (G p l) (G p w.zm) w.zpivot.length (pv w.zpivot) n := by
  unfold matrix_reduce
  rw [clones_ok (by rw [m.len]; omega), bS, m.len, ckN_some (by omega), bS, Nat.sub_zero]
  obtain ⟨l2, e2, h2⟩ := rgS_inv (body := fun k1 (st : (List (List Nat))) => matrix_reduce_L0 k1 st) (rem := h) (k := 0) (s := l) (fun _ l' => l' = l) rfl (fun k l' _ hk he => by
    subst he
    unfold matrix_reduce_L0
    rw [m.some (by omega), bS, clone_ok (by rw [m.row _ (by omega)]; omega), bS, bS]
    exact ⟨_, rfl, set_getD_self (by rw [m.len]; omega)⟩)
  subst h2
  rw [e2, bS]
  have hmx : max 0 ((n : Nat) : Int).toNat = n := by simp
  rw [hmx, ckN_some (by omega), bS, Nat.sub_zero]
  obtain ⟨st, e, h1, h2, h3, h4, h5⟩ := rgS_inv (body := fun k2 (st : (List (List Nat)) × (List Int) × Nat) => matrix_reduce_L1 p k2 st.1 st.2.1 st.2.2) (rem := n) (k := 0) (s := (l2, ([] : List Int), 1))
    (fun c st => Mat p h (n + 1) st.1 ∧ st.2.1.length ≤ h ∧ st.2.2 < p ∧ (∀ r, r < st.2.1.length → st.2.1.getD r 0 = ((pv st.2.1 r : Nat) : Int)) ∧ Red h n (G p l2) (G p st.1) st.2.1.length (pv st.2.1) c)
    ⟨m, by simp, by have := hp.lt; show 1 < p; omega, fun r hr => by simp at hr, Red.start⟩ (fun c st _ hc ⟨h1, h2, h3, h4, h5⟩ => by
      obtain ⟨l, l', x, e, k1, k2, k3, k4, k5⟩ := column_ok hp h1 (by omega) hn hh h2 h3 h4 h5
      exact ⟨_, e, k1, k2, k3, k4, k5⟩)
  rw [e, bS]
  rw [Nat.zero_add] at h5
  exact ⟨_, rfl, h1, h2, h4, h5⟩
end
end Pu
