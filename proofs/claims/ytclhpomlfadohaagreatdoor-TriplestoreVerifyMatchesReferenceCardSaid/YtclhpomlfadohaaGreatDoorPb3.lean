/- Plain laws of solving linear equations. -/
import Derived.Test.YtclhpomlfadohaaGreatDoorPb2
set_option linter.unusedVariables false
namespace Pu
open Gw Gl Sp Lean.Grind
theorem getD_app_l {α : Type} {a b : List α} {i : Nat} {d : α} (h : i < a.length) : (a ++ b).getD i d = a.getD i d := by
  rw [List.getD_eq_getElem?_getD, List.getElem?_append_left h, ← List.getD_eq_getElem?_getD]
theorem getD_app_e {α : Type} {a : List α} {x d : α} {i : Nat} (h : i = a.length) : (a ++ [x]).getD i d = x := by
  subst h; simp [List.getD_eq_getElem?_getD]
theorem rect_ok {p h n : Nat} {m : List (List Nat)} (hm : Mat p h n m) (h0 : 0 < h) : matrix_rect m = some true := by
  unfold matrix_rect slices_ContainsFunc_LLuint64_Luint64_matrix_rect_1 slices_IndexFunc_LLuint64_Luint64_matrix_rect_1
  rw [hm.len, Nat.sub_zero]
  obtain ⟨o, e, ho⟩ := rgO_inv (body := fun k1 (st : Unit) => slices_IndexFunc_LLuint64_Luint64_matrix_rect_1_L0 m m k1) (fun _ _ => True) (fun _ => False) (rem := h) (k := 0) (s := ()) trivial (fun k _ _ hk _ => by
    unfold slices_IndexFunc_LLuint64_Luint64_matrix_rect_1_L0 matrix_rect_1
    rw [hm.some (show k < h by omega), bS, hm.some h0, bS, bS, hm.row _ (by omega), hm.row _ h0, qF rfl, cF]
    exact ⟨_, rfl, trivial⟩)
  rw [e]
  cases o with
  | fin r => exact ho.elim
  | go s => rw [bS, oG, bS, dF (by omega), bS, nF]
theorem cols_ok {p h n : Nat} {m : List (List Nat)} (hm : Mat p h n m) (h0 : 0 < h) : matrix_cols m = some ((n : Nat) : Int) := by
  unfold matrix_cols
  rw [hm.len, eF (by omega), cF, hm.some h0, bS, hm.row _ h0]
section
variable {p : Nat} [NeZero p] {h n : Nat}
theorem wide_ok {m : List (List Nat)} {b : List Nat} (hm : Mat p h n m) (hb : b.length = h) (hbp : ∀ i, i < h → b.getD i 0 < p) (hn : n ≤ 900) (hh : h ≤ 900) :
    ∃ l, rgS (fun k1 (st : (List (List Nat))) => matrix_Solve_L0 m b k1 st) h 0 ([] : List (List Nat)) = some l ∧ Mat p h (n + 1) l ∧ (∀ i, i < h → ∀ j, j < n → G p l i j = G p m i j) ∧ ∀ i, i < h → G p l i n = o p (b.getD i 0) := by
  obtain ⟨l, e, h1, h2⟩ := rgS_inv (body := fun k1 (st : (List (List Nat))) => matrix_Solve_L0 m b k1 st) (rem := h) (k := 0) (s := ([] : List (List Nat)))
    (fun k l => l.length = k ∧ ∀ i, i < k → l.getD i [] = m.getD i [] ++ [b.getD i 0]) ⟨rfl, fun i hi => by omega⟩ (fun k l _ hk ⟨h1, h2⟩ => by
      have hk' : k < h := by omega
      unfold matrix_Solve_L0
      rw [hm.some hk', bS, clone_ok (by rw [hm.row _ hk']; omega), bS, ix 0 (by omega), bS, appO_some (by rw [hm.row _ hk']; simp; omega) (by rw [hm.row _ hk']; simp; omega), bS, appO_some (by simp; omega) (by simp; omega), bS]
      refine ⟨_, rfl, by simp [h1], fun i hi => ?_⟩
      by_cases g : i = k
      · subst g; exact getD_app_e h1.symm
      · rw [getD_app_l (by omega)]; exact h2 i (by omega))
  rw [Nat.zero_add] at h1 h2
  have hr : ∀ i, i < h → ∀ j, (l.getD i []).getD j 0 = if j < n then (m.getD i []).getD j 0 else if j = n then b.getD i 0 else (l.getD i []).getD j 0 := fun i hi j => by
    have hl := hm.row _ hi
    split
    · next g => rw [h2 i hi, getD_app_l (by omega)]
    · split
      · next g => rw [h2 i hi, getD_app_e (by omega)]
      · rfl
  refine ⟨l, e, ⟨h1, fun i hi => by rw [h2 i hi, List.length_append, hm.row _ hi]; rfl, fun i hi j hj => ?_⟩, fun i hi j hj => ?_, fun i hi => ?_⟩
  · rw [hr i hi]
    by_cases g : j < n
    · rw [if_pos g]; exact hm.lt i hi j g
    · rw [if_neg g, if_pos (by omega)]; exact hbp i hi
  · show o p _ = o p _; rw [hr i hi, if_pos hj]
  · show o p _ = o p _; rw [hr i hi, if_neg (by omega), if_pos rfl]
theorem solve_ok (hp : Sup p) {m : List (List Nat)} {b : List Nat} (hm : Mat p h n m) (h0 : 0 < h) (hb : b.length = h) (hbp : ∀ i, i < h → b.getD i 0 < p) (hn : n ≤ 900) (hh : h ≤ 900) {M : Nat → Nat → Fin p} (hM : ∀ i, i < h → ∀ j, j < n → M i j = G p m i j) (hMb : ∀ i, i < h → M i n = o p (b.getD i 0)) :
    ∃ v e, matrix_Solve p m b = some (v, e) ∧ ((e = 0 ∧ v.length = n ∧ (∀ j, j < n → v.getD j 0 < p) ∧ Sol h n M (fun j => o p (v.getD j 0))) ∨ (e = 6 ∧ ∀ v, ¬ Sol h n M v)) := by
  unfold matrix_Solve
  rw [rect_ok hm h0, bS, nT, cF, hm.len, hb, qF rfl, bS, cF, cols_ok hm h0, bS, Nat.sub_zero]
  obtain ⟨l, e1, w1, w2, w3⟩ := wide_ok hm hb hbp hn hh
  rw [e1, bS]
  obtain ⟨w, e2, m2, k2, p2, red⟩ := reduce_mat hp w1 hn hh
  have red' : Red h n M (G p w.zm) w.zpivot.length (pv w.zpivot) n := by
    refine ⟨fun v => ?_, red.len, red.lt, red.cn, red.unit, red.low⟩
    rw [← red.sol]
    constructor
    · intro g i hi
      rw [w3 i hi, ← hMb i hi, ← g i hi]
      exact dot_congr fun j hj => by rw [w2 i hi j hj, hM i hi j hj]
    · intro g i hi
      rw [hMb i hi, ← w3 i hi, ← g i hi]
      exact dot_congr fun j hj => by rw [w2 i hi j hj, hM i hi j hj]
  rw [e2, bS, m2.len, cutO_some (by omega) (by omega) (by rw [m2.len]; omega), bS]
  simp only [Int.toNat_natCast]
  have hl5 : ((w.zm.drop w.zpivot.length).take (h - w.zpivot.length)).length = h - w.zpivot.length := by rw [List.length_take, List.length_drop, m2.len]; omega
  have h5g : ∀ i, i < h - w.zpivot.length → ((w.zm.drop w.zpivot.length).take (h - w.zpivot.length))[i]? = some (w.zm.getD (w.zpivot.length + i) []) := fun i hi => by
    rw [List.getElem?_take, if_pos hi, List.getElem?_drop]
    exact m2.some (by omega)
  rw [hl5, Nat.sub_zero]
  generalize (w.zm.drop w.zpivot.length).take (h - w.zpivot.length) = l5 at *
  obtain ⟨o1, e3, ho⟩ := rgO_inv (body := fun k2 (st : Unit) => matrix_Solve_L1 ((n : Nat) : Int) l5 k2) (fun k _ => ∀ i, w.zpivot.length ≤ i → i < w.zpivot.length + k → G p w.zm i n = 0) (fun r => r = (([] : List Nat), ((6 : Nat) : Int)) ∧ ∃ i, w.zpivot.length ≤ i ∧ i < h ∧ G p w.zm i n ≠ 0) (rem := h - w.zpivot.length) (k := 0) (s := ()) (fun i h1 h2 => by omega) (fun k _ _ hk hi => by
    unfold matrix_Solve_L1
    have hkh : w.zpivot.length + k < h := by omega
    rw [h5g k (by omega), bS, idx_getD 0 (by omega) (by rw [m2.row _ hkh]; omega), bS]
    simp only [Int.toNat_natCast]
    by_cases z : (w.zm.getD (w.zpivot.length + k) []).getD n 0 = 0
    · rw [qF (by omega), cF]
      refine ⟨_, rfl, fun i h1 h2 => ?_⟩
      by_cases g : i = w.zpivot.length + k
      · subst g; show o p _ = 0; rw [z, o_zero]
      · exact hi i h1 (by omega)
    · rw [qT (by omega), cT]
      refine ⟨_, rfl, rfl, w.zpivot.length + k, by omega, hkh, fun e => z ?_⟩
      have hlt := m2.lt _ hkh n (by omega)
      have : o p ((w.zm.getD (w.zpivot.length + k) []).getD n 0) = 0 := e
      rw [o_eq0, Nat.mod_eq_of_lt hlt] at this
      exact this)
  rw [e3, bS]
  cases o1 with
  | fin r =>
    obtain ⟨hr, i, h1, h2, h3⟩ := ho
    rw [oF, hr]
    exact ⟨_, _, rfl, .inr ⟨rfl, fun v hv => h3 (red'.rest hv h1 h2)⟩⟩
  | go s =>
    have hz : ∀ i, w.zpivot.length ≤ i → i < h → G p w.zm i n = 0 := fun i h1 h2 => ho i h1 (by omega)
    rw [oG, mkO_some (by omega) (by omega) (by omega) (by omega), bS, Nat.sub_zero]
    simp only [Int.toNat_natCast]
    obtain ⟨v, e4, v1, v2, v3⟩ := rgS_inv (body := fun k3 (st : (List Nat)) => matrix_Solve_L2 ((n : Nat) : Int) w k3 st) (rem := w.zpivot.length) (k := 0) (s := List.replicate n 0)
      (fun s v => v.length = n ∧ (∀ j, j < n → v.getD j 0 < p) ∧ Read n (G p w.zm) (pv w.zpivot) s (fun j => o p (v.getD j 0))) ⟨by simp, fun j hj => by simp [List.getD_eq_getElem?_getD, hj]; exact hp.pos, fun j hj _ => by simp [List.getD_eq_getElem?_getD, hj, o_zero], fun r hr => by omega⟩ (fun k v _ hk ⟨v1, v2, v3⟩ => by
        have hk' : k < w.zpivot.length := by omega
        have hkh : k < h := by omega
        have hpn : pv w.zpivot k < n := red.lt k hk'
        unfold matrix_Solve_L2
        rw [ix 0 hk', bS, m2.some hkh, bS, idx_getD 0 (by omega) (by rw [m2.row _ hkh]; omega), bS, p2 k hk', idx_getD 0 (by omega) (by rw [v1]; omega), bS, bS]
        simp only [Int.toNat_natCast]
        refine ⟨_, rfl, by rw [List.length_set]; exact v1, fun j hj => ?_, fun j hj hne => ?_, fun r hr => ?_⟩
        · rw [getD_set (by rw [v1]; exact hpn)]; split
          · exact m2.lt _ hkh n (by omega)
          · exact v2 j hj
        · show o p _ = 0
          rw [getD_set (by rw [v1]; exact hpn), if_neg (hne k (by omega))]
          exact v3.1 j hj fun r hr => hne r (by omega)
        · show o p _ = o p _
          rw [getD_set (by rw [v1]; exact hpn)]
          by_cases g : r = k
          · subst g; rw [if_pos rfl]
          · rw [if_neg (fun e => g (red.distinct hp.one (by omega) hk' e.symm))]
            exact v3.2 r (by omega))
    rw [e4, bS]
    rw [Nat.zero_add] at v3
    exact ⟨_, _, rfl, .inl ⟨rfl, v1, v2, red'.solved hp.one v3 hz⟩⟩
end
end Pu
