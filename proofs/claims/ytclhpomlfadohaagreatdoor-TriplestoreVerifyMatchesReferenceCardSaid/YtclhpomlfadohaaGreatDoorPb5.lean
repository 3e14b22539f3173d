/- Plain laws of the decoder of Reed and Solomon. -/
import Derived.Test.YtclhpomlfadohaaGreatDoorPb4
set_option linter.unusedVariables false
namespace Pu
open Gw Gl Sp Lean.Grind
instance : Inhabited T_api_Point := ⟨⟨0, 0⟩⟩
/-- the places are different and all words are below p -/
structure Pts (p : Nat) (pts : List T_api_Point) : Prop where
  x : ∀ i, i < pts.length → (pts.getD i default).X < p
  y : ∀ i, i < pts.length → (pts.getD i default).Y < p
  ne : ∀ i, i < pts.length → ∀ j, j < i → (pts.getD j default).X ≠ (pts.getD i default).X
theorem mget_put {α : Type} {v : α} {k j : Int} : ∀ {m : List (Int × α)}, mgetO (mput m k v) j = if k = j then some v else mgetO m j
  | [] => by
    simp only [mput, mgetO]
    by_cases h : k = j
    · rw [eT h, cT, if_pos h]
    · rw [eF h, cF, if_neg h]
  | q :: m => by
    simp only [mput]
    by_cases h : q.1 = k
    · rw [eT h, cT]
      simp only [mgetO]
      by_cases g : k = j
      · rw [eT g, cT, if_pos g]
      · rw [eF g, cF, if_neg g, h, eF g, cF]
    · rw [eF h, cF]
      simp only [mgetO]
      rw [mget_put]
      by_cases g : q.1 = j
      · rw [eT g, cT, cT, if_neg (fun e => h (g.trans e.symm))]
      · rw [eF g, cF, cF]
theorem filter_len {α : Type} (l : List α) (q : α → Bool) : (l.filter q).length + (l.filter fun i => !q i).length = l.length := by
  induction l with
  | nil => rfl
  | cons a l ih =>
    simp only [List.filter_cons]
    cases q a <;> simp <;> omega
theorem may_ok {p : Nat} {pts : List T_api_Point} {deg w : Nat} (hP : Pts p pts) (hn : deg + 1 + 2 * w ≤ pts.length) (hl : pts.length ≤ 100) : reedsolomon_may pts ((deg : Nat) : Int) ((w : Nat) : Int) = some true := by
  unfold reedsolomon_may
  rw [dF (by omega), cF, dF (by omega), cF, dF (by omega), cF, dF (by omega), cF, addI_some (by omega) (by omega), bS, mulI_some (by omega) (by omega), bS, addI_some (by omega) (by omega), bS, dF (by omega), bS, cF, Nat.sub_zero]
  obtain ⟨o, e, ho⟩ := rgO_inv (body := fun k1 (st : (List (Int × Bool))) => reedsolomon_may_L0 pts k1 st) (fun k l => ∀ z : Int, (∀ i, i < k → (((pts.getD i default).X : Nat) : Int) ≠ z) → mgetO l z = none) (fun _ => False) (rem := pts.length) (k := 0) (s := ([] : List (Int × Bool))) (fun _ _ => rfl) (fun k l _ hk h => by
    unfold reedsolomon_may_L0
    rw [ix default (by omega), bS, h _ (fun i hi e => hP.ne k (by omega) i hi (by omega))]
    refine ⟨_, rfl, fun z hz => ?_⟩
    rw [mget_put, if_neg (hz k (by omega))]
    exact h z fun i hi => hz i (by omega))
  rw [e, bS]
  cases o with
  | fin r => exact ho.elim
  | go s => rw [oG]
section
variable {p : Nat} [NeZero p]
theorem getD_app_lt {p n : Nat} {l : List Nat} {v : Nat} (h : ∀ i, i < n → l.getD i 0 < p) (hl : l.length = n) (hv : v < p) : ∀ i, i < n + 1 → (l ++ [v]).getD i 0 < p := fun i hi => by
  by_cases g : i < n
  · rw [getD_app_l (by omega)]; exact h i g
  · rw [getD_app_e (by omega)]; exact hv
/-- one row of the equations -/
theorem row_ok (hp : Sup p) {X Y deg w : Nat} (hX : X < p) (hY : Y < p) (hd : deg + 2 * w ≤ 100) :
    ∃ l x r y, rgS (fun k2 (st : (List Nat) × Nat) => reedsolomon_try_L1 p ⟨X, Y⟩ k2 st.1 st.2) (deg + w + 1) 0 (([] : List Nat), 1) = some (l, x) ∧
      rgS (fun k3 (st : (List Nat) × Nat) => reedsolomon_try_L2 p ⟨X, Y⟩ k3 st.1 st.2) w 0 (l, Y) = some (r, y) ∧ r.length = deg + w + 1 + w ∧ (∀ j, j < deg + w + 1 + w → r.getD j 0 < p) ∧ y < p ∧
      (∀ j, j < deg + w + 1 + w → o p (r.getD j 0) = bwRow deg w (o p X) (o p Y) j) ∧ o p y = bwRow deg w (o p X) (o p Y) (deg + w + 1 + w) := by
  have hl := hp.lt
  obtain ⟨⟨l, x⟩, e, l1, l2, l3, _, _⟩ := rgS_inv (body := fun k2 (st : (List Nat) × Nat) => reedsolomon_try_L1 p ⟨X, Y⟩ k2 st.1 st.2) (rem := deg + w + 1) (k := 0) (s := (([] : List Nat), 1))
    (fun k st => st.1.length = k ∧ (∀ j, j < k → st.1.getD j 0 < p) ∧ (∀ j, j < k → o p (st.1.getD j 0) = o p X ^ j) ∧ st.2 < p ∧ o p st.2 = o p X ^ k)
    ⟨rfl, fun j hj => by omega, fun j hj => by omega, by show 1 < p; omega, by show o p 1 = _; rw [o_one]; grind⟩ (fun k st _ hk ⟨h1, h2, h3, h4, h5⟩ => by
      unfold reedsolomon_try_L1
      rw [appO_some (by rw [h1]; simp; omega) (by rw [h1]; simp; omega), bS, mul_ok hp h4 hX, bS]
      refine ⟨_, rfl, by simp [h1], getD_app_lt h2 h1 h4, fun j hj => ?_, Nat.mod_lt _ hp.pos, ?_⟩
      · show o p ((st.1 ++ [st.2]).getD j 0) = _
        by_cases g : j < k
        · rw [getD_app_l (by omega)]; exact h3 j g
        · rw [getD_app_e (by omega), h5]; congr 1; omega
      · show o p (st.2 * X % p) = _
        rw [o_mod, o_mul, h5]; grind)
  rw [Nat.zero_add] at l1 l2 l3
  obtain ⟨⟨r, y⟩, e2, r1, r2, r3, r4, r5⟩ := rgS_inv (body := fun k3 (st : (List Nat) × Nat) => reedsolomon_try_L2 p ⟨X, Y⟩ k3 st.1 st.2) (rem := w) (k := 0) (s := (l, Y))
    (fun k st => st.1.length = deg + w + 1 + k ∧ (∀ j, j < deg + w + 1 + k → st.1.getD j 0 < p) ∧ (∀ j, j < deg + w + 1 + k → o p (st.1.getD j 0) = bwRow deg w (o p X) (o p Y) j) ∧ st.2 < p ∧ o p st.2 = o p Y * o p X ^ k)
    ⟨l1, l2, fun j hj => by rw [l3 j hj, bwRow, if_pos (by omega)], hY, by show o p Y = _; grind⟩ (fun k st _ hk ⟨h1, h2, h3, h4, h5⟩ => by
      unfold reedsolomon_try_L2
      rw [neg_ok hp h4, bS, appO_some (by rw [h1]; simp; omega) (by rw [h1]; simp; omega), bS, mul_ok hp h4 hX, bS]
      refine ⟨_, rfl, by simp [h1]; omega, getD_app_lt h2 h1 (Nat.mod_lt _ hp.pos), fun j hj => ?_, Nat.mod_lt _ hp.pos, ?_⟩
      · show o p ((st.1 ++ [(p - st.2) % p]).getD j 0) = _
        by_cases g : j < deg + w + 1 + k
        · rw [getD_app_l (by omega)]; exact h3 j g
        · rw [getD_app_e (by omega), o_neg' h4, h5, bwRow, if_neg (by omega), if_pos (by omega), show j - (deg + w + 1) = k by omega]
      · show o p (st.2 * X % p) = _
        rw [o_mod, o_mul, h5]; grind)
  rw [Nat.zero_add] at r1 r2 r3 r5
  exact ⟨l, x, r, y, e, e2, r1, r2, r4, r3, by rw [r5, bwRow, if_neg (by omega), if_neg (by omega)]⟩
/-- the equations of Berlekamp and Welch -/
theorem try_ok (hp : Sup p) {pts : List T_api_Point} {deg w : Nat} (hP : Pts p pts) (h0 : 0 < pts.length) (hd : deg + 2 * w ≤ 100) (hl : pts.length ≤ 100) :
    (∃ q e, reedsolomon_try p pts ((deg : Nat) : Int) ((w : Nat) : Int) = some (q, e, true) ∧ q.length = deg + w + 1 ∧ Lt p q ∧ e.length = w + 1 ∧ Lt p e ∧ e.getD w 0 = 1 ∧
      ∀ i, i < pts.length → evl (P p q) (o p (pts.getD i default).X) = o p (pts.getD i default).Y * evl (P p e) (o p (pts.getD i default).X)) ∨
    (reedsolomon_try p pts ((deg : Nat) : Int) ((w : Nat) : Int) = some ([], [], false) ∧ ∀ f0 bad : List (Fin p), f0.length ≤ deg + 1 → bad.length ≤ w → ¬ ∀ i, i < pts.length → (o p (pts.getD i default).X ∈ bad ∨ o p (pts.getD i default).Y = evl f0 (o p (pts.getD i default).X))) := by
  have hlt := hp.lt
  unfold reedsolomon_try
  rw [Nat.sub_zero]
  obtain ⟨⟨m, b⟩, e1, m1, m2, m3, m4, m5, m6⟩ := rgS_inv (body := fun k1 (st : (List (List Nat)) × (List Nat)) => reedsolomon_try_L0 p pts ((deg : Nat) : Int) ((w : Nat) : Int) k1 st.1 st.2) (rem := pts.length) (k := 0) (s := (([] : List (List Nat)), ([] : List Nat)))
    (fun k st => st.1.length = k ∧ st.2.length = k ∧ (∀ i, i < k → (st.1.getD i []).length = deg + w + 1 + w ∧ ∀ j, j < deg + w + 1 + w → (st.1.getD i []).getD j 0 < p) ∧ (∀ i, i < k → st.2.getD i 0 < p) ∧
      (∀ i, i < k → ∀ j, j < deg + w + 1 + w → o p ((st.1.getD i []).getD j 0) = bwRow deg w (o p (pts.getD i default).X) (o p (pts.getD i default).Y) j) ∧ ∀ i, i < k → o p (st.2.getD i 0) = bwRow deg w (o p (pts.getD i default).X) (o p (pts.getD i default).Y) (deg + w + 1 + w))
    ⟨rfl, rfl, fun i hi => by omega, fun i hi => by omega, fun i hi => by omega, fun i hi => by omega⟩ (fun k st _ hk ⟨h1, h2, h3, h4, h5, h6⟩ => by
      unfold reedsolomon_try_L0
      have hx := hP.x k (by omega)
      have hy := hP.y k (by omega)
      rw [ix default (by omega), bS, addI_some (by omega) (by omega), bS, addI_some (by omega) (by omega), bS]
      generalize hq : pts.getD k default = Q at *
      obtain ⟨X, Y⟩ := Q
      obtain ⟨l, x, r, y, a1, a2, a3, a4, a5, a6, a7⟩ := row_ok (deg := deg) (w := w) hp hx hy (by omega)
      have z1 : max 0 ((deg : Int) + (w : Int) + 1).toNat = deg + w + 1 := by omega
      have z2 : max 0 ((w : Nat) : Int).toNat = w := by simp
      rw [z1, z2, ckN_some (by omega), bS, Nat.sub_zero, a1, bS]
      simp only
      rw [ckN_some (by omega), bS, Nat.sub_zero, a2, bS]
      simp only
      rw [appO_some (by rw [h1]; simp; omega) (by rw [h1]; simp; omega), bS, appO_some (by rw [h2]; simp; omega) (by rw [h2]; simp; omega), bS]
      refine ⟨_, rfl, by simp [h1], by simp [h2], fun i hi => ?_, getD_app_lt h4 h2 a5, fun i hi => ?_, fun i hi => ?_⟩
      · show ((st.1 ++ [r]).getD i []).length = _ ∧ _
        by_cases g : i < k
        · simp only; rw [getD_app_l (by omega)]; exact h3 i g
        · simp only; rw [getD_app_e (by omega)]; exact ⟨a3, a4⟩
      · simp only
        by_cases g : i < k
        · rw [getD_app_l (by omega)]; exact h5 i g
        · have : i = k := by omega
          subst this
          rw [getD_app_e (by omega), hq]; exact a6
      · simp only
        by_cases g : i < k
        · rw [getD_app_l (by omega)]; exact h6 i g
        · have : i = k := by omega
          subst this
          rw [getD_app_e (by omega), hq]; exact a7)
  rw [Nat.zero_add] at m1 m2 m3 m4 m5 m6
  simp only at m1 m2 m3 m4 m5 m6
  rw [e1, bS]
  simp only
  obtain ⟨v, e, e2, hv⟩ := solve_ok (h := pts.length) (n := deg + w + 1 + w) (m := m) (b := b) (M := fun i j => bwRow deg w (o p (pts.getD i default).X) (o p (pts.getD i default).Y) j) hp
    ⟨m1, fun i hi => (m3 i hi).1, fun i hi => (m3 i hi).2⟩ h0 m2 m4 (by omega) (by omega) (fun i hi j hj => (m5 i hi j hj).symm) (fun i hi => (m6 i hi).symm)
  rw [e2, bS]
  simp only
  rcases hv with ⟨rfl, v1, v2, v3⟩ | ⟨rfl, v1⟩
  · left
    rw [qF rfl, cF, addI_some (by omega) (by omega), bS, addI_some (by omega) (by omega), bS, cutO_some (by omega) (by omega) (by omega), bS, cutO_some (by omega) (by omega) (by omega), bS]
    have z1 : ((deg : Int) + (w : Int) + 1).toNat = deg + w + 1 := by omega
    rw [z1]
    simp only [Int.toNat_natCast, Int.toNat_zero, Nat.sub_zero, List.drop_zero]
    have hq : (v.take (deg + w + 1)).length = deg + w + 1 := by rw [List.length_take]; omega
    have ht : ((v.drop (deg + w + 1)).take (v.length - (deg + w + 1))).length = w := by rw [List.length_take, List.length_drop]; omega
    have hq1 : ∀ j, j < deg + w + 1 → (v.take (deg + w + 1)).getD j 0 = v.getD j 0 := fun j hj => by
      rw [List.getD_eq_getElem?_getD, List.getElem?_take, if_pos hj, ← List.getD_eq_getElem?_getD]
    have ht1 : ∀ j, j < w → ((v.drop (deg + w + 1)).take (v.length - (deg + w + 1))).getD j 0 = v.getD (deg + w + 1 + j) 0 := fun j hj => by
      rw [List.getD_eq_getElem?_getD, List.getElem?_take, if_pos (by omega), List.getElem?_drop, ← List.getD_eq_getElem?_getD]
    generalize v.take (deg + w + 1) = q at *
    generalize (v.drop (deg + w + 1)).take (v.length - (deg + w + 1)) = t at *
    rw [appO_some (by simp; omega) (by simp; omega), bS, List.nil_append, appO_some (by simp; omega) (by simp; omega), bS]
    refine ⟨_, _, rfl, hq, fun i hi => by rw [hq1 i (by omega)]; exact v2 i (by omega), by simp [ht], fun i hi => ?_, getD_app_e ht.symm, fun i hi => ?_⟩
    · simp only [List.length_append, List.length_cons, List.length_nil] at hi
      exact getD_app_lt (n := w) (fun j hj => by rw [ht1 j hj]; exact v2 _ (by omega)) ht (by omega) i (by omega)
    · have := v3 i hi
      rw [← bw_dot (deg := deg) (w := w) (v := fun j => o p (v.getD j 0)) (by rw [P_len, hq]) (by rw [P_len]; simp [ht]) (by rw [P_cf, getD_app_e ht.symm, o_one]) (fun j hj => by rw [P_cf, hq1 j hj]) (fun k hk => by rw [P_cf, getD_app_l (by omega), ht1 k hk])]
      exact this
  · right
    rw [qT (by omega), cT]
    refine ⟨rfl, fun f0 bad g1 g2 g3 => ?_⟩
    obtain ⟨u, hu⟩ := bw_exists (deg := deg) (w := w) g1 g2
    exact v1 u fun i hi => hu _ _ (g3 i hi)
/-- where the words differ -/
def wrongs (p : Nat) (pts : List T_api_Point) (f : List Nat) [NeZero p] : List Nat := (List.range pts.length).filter fun i => decide (evl (P p f) (o p (pts.getD i default).X) ≠ o p (pts.getD i default).Y)
theorem errors_ok (hp : Sup p) {pts : List T_api_Point} {f : List Nat} (hP : Pts p pts) (hf : Lt p f) (hfl : f.length ≤ 1000) (hl : pts.length ≤ 100) :
    reedsolomon_ErrorPositions p f pts = some ((wrongs p pts f).map fun i => ((i : Nat) : Int)) := by
  unfold reedsolomon_ErrorPositions
  rw [Nat.sub_zero]
  obtain ⟨l, e, h⟩ := rgS_inv (body := fun k1 (st : (List Int)) => reedsolomon_ErrorPositions_L0 p f pts k1 st) (rem := pts.length) (k := 0) (s := ([] : List Int))
    (fun k l => l = ((List.range k).filter fun i => decide (evl (P p f) (o p (pts.getD i default).X) ≠ o p (pts.getD i default).Y)).map fun i => ((i : Nat) : Int)) rfl (fun k l _ hk h => by
      unfold reedsolomon_ErrorPositions_L0
      obtain ⟨y, ey, y1, y2⟩ := eval_ok hp hf (hP.x k (by omega)) hfl
      have hll : l.length ≤ k := by rw [h, List.length_map]; exact Nat.le_trans (List.length_filter_le ..) (by simp)
      rw [ix default (by omega), bS, ey, bS, List.range_succ, List.filter_append, List.map_append, ← h]
      by_cases g : y = (pts.getD k default).Y
      · rw [qF (by omega), cF]
        refine ⟨_, rfl, ?_⟩
        have : decide (evl (P p f) (o p (pts.getD k default).X) ≠ o p (pts.getD k default).Y) = false := by rw [← y2, g]; simp
        simp only [List.filter_cons, this, List.filter_nil]
        simp
      · rw [qT (by omega), cT, appO_some (by simp; omega) (by simp; omega), bS]
        refine ⟨_, rfl, ?_⟩
        have : decide (evl (P p f) (o p (pts.getD k default).X) ≠ o p (pts.getD k default).Y) = true := by
          rw [← y2]; exact decide_eq_true fun e => g (o_inj y1 (hP.y k (by omega)) e)
        simp only [List.filter_cons, this, List.filter_nil]
        simp)
  rw [Nat.zero_add] at h
  rw [e, bS, h]; rfl
theorem wrongs_lt {pts : List T_api_Point} {f : List Nat} : ∀ i ∈ wrongs p pts f, i < pts.length := fun i hi => by
  have := (List.mem_filter.1 hi).1
  simpa using this
theorem nodup_X (hp : Sup p) {pts : List T_api_Point} (hP : Pts p pts) (l : List Nat) (hl : l.Nodup) (hlt : ∀ i ∈ l, i < pts.length) : (l.map fun i => o p (pts.getD i default).X).Nodup := by
  rw [List.Nodup, List.pairwise_map]
  refine List.Pairwise.imp_of_mem ?_ hl
  intro i j hi hj hne e
  have e' := o_inj (hP.x i (hlt i hi)) (hP.x j (hlt j hj)) e
  rcases Nat.lt_or_gt_of_ne hne with g | g
  · exact hP.ne j (hlt j hj) i g e'
  · exact hP.ne i (hlt i hi) j g e'.symm
/-- decoding: an answer always; the right one where at most w words are wrong -/
theorem decode_ok (hp : Sup p) {pts : List T_api_Point} {deg w : Nat} (hP : Pts p pts) (hn : deg + 1 + 2 * w ≤ pts.length) (hl : pts.length ≤ 13) :
    ∃ f at_ e, reedsolomon_Decode p pts ((deg : Nat) : Int) ((w : Nat) : Int) = some (f, at_, e) ∧ Lt p f ∧ f.length ≤ deg + 1 ∧ (∃ l : List Nat, at_ = l.map (fun i => ((i : Nat) : Int)) ∧ ∀ i ∈ l, i < pts.length) ∧
      ∀ f0 : List Nat, f0.length ≤ deg + 1 → (wrongs p pts f0).length ≤ w → e = 0 ∧ (∀ i, o p (f.getD i 0) = o p (f0.getD i 0)) ∧ at_ = (wrongs p pts f0).map (fun i => ((i : Nat) : Int)) := by
  have hlt := hp.lt
  unfold reedsolomon_Decode
  rw [may_ok hP hn (by omega), bS, nT, cF]
  have key : ∀ f0 : List Nat, (wrongs p pts f0).length ≤ w → ∀ i, i < pts.length → (o p (pts.getD i default).X ∈ (wrongs p pts f0).map (fun i => o p (pts.getD i default).X) ∨ o p (pts.getD i default).Y = evl (P p f0) (o p (pts.getD i default).X)) := fun f0 _ i hi => by
    by_cases g : evl (P p f0) (o p (pts.getD i default).X) = o p (pts.getD i default).Y
    · exact .inr g.symm
    · left
      refine List.mem_map.2 ⟨i, List.mem_filter.2 ⟨by simpa using hi, decide_eq_true g⟩, rfl⟩
  rcases try_ok (deg := deg) (w := w) hp hP (by omega) (by omega) (by omega) with ⟨q, e, et, q1, q2, e1, e2, e3, heq⟩ | ⟨et, hno⟩
  · rw [et, bS]
    simp only [nT, cF]
    obtain ⟨f, r, ed, f1, r1, r2, f2, f3, r3, hd⟩ := divmod_ok hp q2 e2 e1 e3 (by omega) (by omega)
    rw [ed, bS]
    simp only
    -- what a right polynomial makes of it
    have good : ∀ f0 : List Nat, f0.length ≤ deg + 1 → (wrongs p pts f0).length ≤ w → (∀ i, cf (P p f) i = cf (P p f0) i) ∧ ∀ i, cf (P p r) i = 0 := fun f0 g1 g2 => by
      let ok := (List.range pts.length).filter fun i => !decide (evl (P p f0) (o p (pts.getD i default).X) ≠ o p (pts.getD i default).Y)
      have hcount : ok.length + (wrongs p pts f0).length = pts.length := by
        have := filter_len (List.range pts.length) (fun i => decide (evl (P p f0) (o p (pts.getD i default).X) ≠ o p (pts.getD i default).Y))
        rw [List.length_range] at this
        show (List.filter _ _).length + (List.filter _ _).length = _
        omega
      refine bw (good := ok.map fun i => o p (pts.getD i default).X) (all := (List.range 31).map (o p)) (deg := deg) (w := w) (q := P p q) (e := P p e) hp.nz ?_ ?_ (by rw [P_len]; omega) (by rw [P_len]; exact g1) (by rw [P_cf, e3, o_one]) (by rw [P_len]; exact e1) (by rw [P_len]; exact r2) (by rw [List.length_map]; omega) (by simp; omega) (by rw [P_len]; simp; omega) (by simp; omega) ?_ hd
      · exact nodup_X hp hP ok (List.Pairwise.filter _ List.nodup_range) (fun i hi => by have := (List.mem_filter.1 hi).1; simpa using this)
      · rw [List.Nodup, List.pairwise_map]
        refine List.Pairwise.imp_of_mem ?_ List.nodup_range
        intro a b ha hb hne e
        simp only [List.mem_range] at ha hb
        exact hne (o_inj (by omega) (by omega) e)
      · intro x hx
        obtain ⟨i, hi, rfl⟩ := List.mem_map.1 hx
        have hi' := List.mem_filter.1 hi
        have hil : i < pts.length := by simpa using hi'.1
        have h3 : evl (P p f0) (o p (pts.getD i default).X) = o p (pts.getD i default).Y := by simpa using hi'.2
        rw [heq i hil, h3]
    have good2 : ∀ f0 : List Nat, f0.length ≤ deg + 1 → (wrongs p pts f0).length ≤ w → r = [] ∧ (∀ i, deg + 1 ≤ i → f.getD i 0 = 0) ∧ wrongs p pts f = wrongs p pts f0 := fun f0 g1 g2 => by
      obtain ⟨k1, k2⟩ := good f0 g1 g2
      refine ⟨?_, fun i hi => ?_, ?_⟩
      · rcases r3 with r3 | r3
        · exact r3
        · exfalso
          have := k2 (r.length - 1)
          rw [P_cf, o_eq0, Nat.mod_eq_of_lt (r1.get hp.pos _)] at this
          exact r3 this
      · have := k1 i
        rw [P_cf, P_cf, getD_ge (l := f0) (by omega), o_zero, o_eq0, Nat.mod_eq_of_lt (f1.get hp.pos _)] at this
        exact this
      · unfold wrongs
        congr 1
        funext i
        rw [evl_congr k1]
    obtain ⟨k, dk1, dk2, dk3, dk4⟩ := degree_ok (f := f) (by omega)
    by_cases c1 : r.length > 0
    · rw [dT (by omega), cT, bS, cT]
      exact ⟨_, _, _, rfl, fun i hi => by simp at hi, by simp, ⟨[], rfl, by simp⟩, fun f0 g1 g2 => by have := (good2 f0 g1 g2).1; rw [this] at c1; simp at c1⟩
    · rw [dF (by omega), cF, dk2, bS]
      by_cases c2 : deg + 1 < k
      · rw [dT (by omega), bS, cT]
        exact ⟨_, _, _, rfl, fun i hi => by simp at hi, by simp, ⟨[], rfl, by simp⟩, fun f0 g1 g2 => by
          have := (good2 f0 g1 g2).2.1 (k - 1) (by omega)
          rcases dk4 with z | z
          · omega
          · exact absurd this z⟩
      · rw [dF (by omega), bS, cF, errors_ok hp hP f1 (by omega) (by omega), bS, List.length_map]
        have hfl : f.length ≤ deg + 1 := by
          rcases f3 with z | z
          · rw [z]; simp
          · apply Classical.byContradiction
            intro g
            exact z (dk3 _ (by omega))
        by_cases c3 : (wrongs p pts f).length ≤ w
        · rw [dF (by omega), cF]
          refine ⟨_, _, _, rfl, f1, hfl, ⟨_, rfl, wrongs_lt⟩, fun f0 g1 g2 => ⟨rfl, fun i => ?_, by rw [(good2 f0 g1 g2).2.2]⟩⟩
          have := (good f0 g1 g2).1 i
          rw [P_cf, P_cf] at this
          exact this
        · rw [dT (by omega), cT]
          exact ⟨_, _, _, rfl, fun i hi => by simp at hi, by simp, ⟨[], rfl, by simp⟩, fun f0 g1 g2 => by
            have := (good2 f0 g1 g2).2.2
            rw [this] at c3; omega⟩
  · rw [et, bS]
    simp only [nF, cT]
    exact ⟨_, _, _, rfl, fun i hi => by simp at hi, by simp, ⟨[], rfl, by simp⟩, fun f0 g1 g2 => absurd (key f0 g2) (hno _ _ (by rw [P_len]; exact g1) (by rw [List.length_map]; exact g2))⟩
end
end Pu
