/- Plain laws of chapter 25: verifying triples, the laws. -/
import Derived.Test.YtclhpomlfadohaaDoorRf1
set_option linter.unusedVariables false
namespace Pu
open Gw Gl Sp Lean.Grind
theorem aw25 : privitylaw25_awake = some true := by decide +kernel
theorem getD_mem {α : Type} {l : List α} {k : Nat} {d : α} (h : k < l.length) : l.getD k d ∈ l := by
  rw [List.getD_eq_getElem?_getD, List.getElem?_eq_getElem h]; exact List.getElem_mem h
theorem refSub_ok {p a b : Nat} [NeZero p] (hp : Sup p) (ha : a < p) (hb : b < p) : ∃ y, privityref01_Sub p a b = some y ∧ y < p ∧ o p y = o p a - o p b := by
  have hlt := hp.lt
  unfold privityref01_Sub
  have h1 : addU a p = a + p := by unfold addU; omega
  rw [bS, h1, subU_ok (by omega) (by omega), bS]
  unfold remU
  rw [if_neg (by omega), bS]
  refine ⟨_, rfl, Nat.mod_lt _ hp.pos, ?_⟩
  rw [o_mod, o_sub (by omega), o_add, o_self]; grind
def seven (q : T_privitylaw25_Ask) : List (List Nat) := [q.A.e0, q.A.e1, q.A.e2, q.B.e0, q.B.e1, q.B.e2, q.R]
theorem fair25_ok {q : T_privitylaw25_Ask} (hK : ∀ x ∈ q.W.Deviations, x.K < 18446744073709551616) : ∃ b, privitylaw25_fair q = some b ∧ (b = true → ∃ n t, Va q.W n t ∧ ∀ i, i < 7 → ((seven q).getD i []).length = t + 1 ∧ Lt q.W.S.P ((seven q).getD i [])) := by
  unfold privitylaw25_fair
  obtain ⟨b, e, hb⟩ := light_ok (w := q.W) (parties := ((7 : Nat) : Int)) (lies := ((8 : Nat) : Int)) (words := ((10 : Nat) : Int)) hK (by omega) (by omega)
  rw [e, bS]
  cases b with
  | false => rw [nF, cT]; exact ⟨_, rfl, fun h => by cases h⟩
  | true =>
    obtain ⟨n, t, v, hv⟩ := hb rfl
    have h3 := v.t3
    have h13 := v.n13
    rw [nT, cF]
    have e7 : ([q.A.e0, q.A.e1, q.A.e2, q.B.e0, q.B.e1, q.B.e2, q.R] : List (List Nat)).length - 0 = 7 := rfl
    obtain ⟨o1, eo, ho⟩ := rgO_inv (body := fun k1 (st : Unit) => privitylaw25_fair_L0 q k1) (fun k _ => ∀ i, i < k → ((seven q).getD i []).length = t + 1 ∧ Lt q.W.S.P ((seven q).getD i [])) (fun r => r = false) (rem := 7) (k := 0) (s := ()) (fun i hi => by omega) (fun k _ _ hk h => by
      have hk7 : k < (seven q).length := by show k < 7; omega
      unfold privitylaw25_fair_L0
      show ∃ o, ((seven q)[k]? >>= _) = some o ∧ _
      rw [ix [] hk7, bS, addI_some (by rw [v.T]; omega) (by rw [v.T]; omega), bS]
      by_cases g : ((seven q).getD k []).length = t + 1
      · rw [qF (by rw [v.T]; omega), cF]
        obtain ⟨b, e, hb⟩ := refBelow (p := q.W.S.P) (l := (seven q).getD k [])
        rw [e, bS]
        cases b with
        | false => rw [nF, cT]; exact ⟨_, rfl, rfl⟩
        | true =>
          rw [nT, cF]
          refine ⟨_, rfl, fun i hi => ?_⟩
          by_cases c : i = k
          · subst c; exact ⟨g, hb rfl⟩
          · exact h i (by omega)
      · rw [qT (by rw [v.T]; omega), cT]; exact ⟨_, rfl, rfl⟩)
    rw [e7, eo, bS]
    cases o1 with
    | fin r => rw [oF]; exact ⟨_, rfl, fun h => by rw [ho] at h; cases h⟩
    | go _ => rw [oG]; exact ⟨_, rfl, fun _ => ⟨n, t, v, fun i hi => ho i (by omega)⟩⟩
theorem of_ok {s : T_api_Params} {n t : Nat} [NeZero s.P] (par : Par s n t) {l : T_arr3_30} (h0 : l.e0.length = t + 1 ∧ Lt s.P l.e0) (h1 : l.e1.length = t + 1 ∧ Lt s.P l.e1) (h2 : l.e2.length = t + 1 ∧ Lt s.P l.e2) :
    ∃ A B C, privitylaw25_of s l = some ⟨A, B, C⟩ ∧ Sg s.P n t A (fun c => o s.P (l.e0.getD c 0)) ∧ Sg s.P n t B (fun c => o s.P (l.e1.getD c 0)) ∧ Sg s.P n t C (fun c => o s.P (l.e2.getD c 0)) := by
  obtain ⟨A, eA, sA⟩ := row25_ok par h0.2 h0.1
  obtain ⟨B, eB, sB⟩ := row25_ok par h1.2 h1.1
  obtain ⟨C, eC, sC⟩ := row25_ok par h2.2 h2.1
  unfold privitylaw25_of
  rw [eA, bS, eB, bS, eC, bS]
  exact ⟨A, B, C, rfl, sA, sB, sC⟩
theorem in_ok {l : List Int} {k : Int} : privityref12_In l k = some (decide (k ∈ l)) := by
  unfold privityref12_In
  rw [Nat.sub_zero]
  obtain ⟨o1, e, ho⟩ := rgO_inv (body := fun k1 (st : Unit) => privityref12_In_L0 l k k1) (fun j _ => ∀ i, i < j → l.getD i 0 ≠ k) (fun r => r = true ∧ k ∈ l) (rem := l.length) (k := 0) (s := ()) (fun i hi => by omega) (fun j _ _ hj h => by
    have hjl : j < l.length := by omega
    unfold privityref12_In_L0
    rw [ix 0 hjl, bS]
    by_cases g : l.getD j 0 = k
    · rw [eT g, cT]; exact ⟨_, rfl, rfl, by rw [← g]; exact getD_mem hjl⟩
    · rw [eF g, cF]
      refine ⟨_, rfl, fun i hi => ?_⟩
      by_cases c : i = j
      · subst c; exact g
      · exact h i (by omega))
  rw [e, bS]
  cases o1 with
  | fin r => rw [oF, ho.1, dT ho.2]
  | go _ =>
    rw [oG, dF]
    intro hm
    obtain ⟨i, hi, he⟩ := List.getElem_of_mem hm
    apply ho i (by omega)
    rw [List.getD_eq_getElem?_getD, List.getElem?_eq_getElem hi]; exact he
theorem parties_ok {w : T_api_Scenario} {n t : Nat} (s : Sc w n t) : ∃ h, privityref12_HonestParties w.S w.Corrupt = some h ∧ 0 < h.length ∧ h.length ≤ n ∧ ∀ k, k < h.length → ∃ i, i < n ∧ h.getD k 0 = ((i : Nat) : Int) + 1 := by
  have h13 := s.n13
  have ht3 := s.t3
  unfold privityref12_HonestParties
  have hm : max 1 (w.S.N + 1).toNat = n + 1 := by rw [s.N]; omega
  rw [hm, ckN_some (by omega), bS, Nat.add_sub_cancel]
  obtain ⟨h, e, j, hj, h1, h2, h3⟩ := rgS_inv (body := fun k1 (st : (List Int)) => privityref12_HonestParties_L0 w.Corrupt k1 st) (rem := n) (k := 1) (s := ([] : List Int))
    (fun k h => ∃ j, k = j + 1 ∧ h.length ≤ j ∧ (∀ q, q < h.length → ∃ i, i < n ∧ h.getD q 0 = ((i : Nat) : Int) + 1) ∧ (h.length = 0 → ∀ i, i < j → ((i : Nat) : Int) + 1 ∈ w.Corrupt)) ⟨0, rfl, Nat.le_refl _, fun q hq => by simp at hq, fun _ i hi => by omega⟩ (fun k h h1 hk ⟨j, hj, h2, h3, h4⟩ => by
      subst hj
      unfold privityref12_HonestParties_L0
      rw [in_ok, bS]
      by_cases g : ((j + 1 : Nat) : Int) ∈ w.Corrupt
      · rw [dT g, nT, cF]
        refine ⟨_, rfl, j + 1, rfl, by omega, h3, fun h0 i hi => ?_⟩
        by_cases c : i = j
        · subst c; exact g
        · exact h4 h0 i (by omega)
      · rw [dF g, nF, cT, ap1 (by omega) (by omega), bS]
        refine ⟨_, rfl, j + 1, rfl, by simp; omega, fun q hq => ?_, fun h0 => by simp at h0⟩
        by_cases c : q < h.length
        · rw [getD_app_l c]; exact h3 q c
        · have : q = h.length := by simp at hq; omega
          subst this
          rw [getD_app_e rfl]
          exact ⟨j, by omega, rfl⟩)
  have hjn : j = n := by omega
  subst hjn
  rw [e, bS]
  refine ⟨h, rfl, ?_, h1, h2⟩
  apply Classical.byContradiction
  intro h0
  have hc := h3 (by omega)
  have := sub_len (l1 := (List.range j).map fun i => ((i : Nat) : Int) + 1) (l2 := w.Corrupt) (by
    rw [List.Nodup, List.pairwise_map]
    exact List.Pairwise.imp (fun {a b} h => by omega) List.nodup_range) (fun x hx => by
    obtain ⟨i, hi, rfl⟩ := List.mem_map.1 hx
    exact hc i (by simpa using hi))
  rw [List.length_map, List.length_range] at this
  have := s.cl
  have := s.n4
  omega
def netOf (w : T_api_Scenario) (n : Nat) : T_network_Net := ⟨w, 0, List.replicate n [], List.replicate n ()⟩
theorem netOf_views {w : T_api_Scenario} {n : Nat} : (netOf w n).zviews.length = n ∧ ∀ j, j < n → ((netOf w n).zviews.getD j []) = [] := ⟨by simp [netOf], fun j hj => by simp [netOf, List.getD_eq_getElem?_getD, hj]⟩
theorem vfy {w : T_api_Scenario} {n t : Nat} [NeZero w.S.P] (s : Sc w n t) {A B C X Y Z R : List (List Nat)} {a b c x y z r : Nat → Fin w.S.P} (hA : Sg w.S.P n t A a) (hB : Sg w.S.P n t B b) (hC : Sg w.S.P n t C c) (hX : Sg w.S.P n t X x) (hY : Sg w.S.P n t Y y) (hZ : Sg w.S.P n t Z z) (hR : Sg w.S.P n t R r) :
    ∃ out rd views, triplestore_Verify ⟨w, 0, List.replicate n [], List.replicate n ()⟩ ⟨A, B, C⟩ ⟨X, Y, Z⟩ R = some (out, rd, views) ∧ out.length = n ∧ ∀ j, j < n → (out.getD j false = true ↔ r 0 * (c 0 - a 0 * b 0) = z 0 - x 0 * y 0) := by
  haveI : NeZero (netOf w n).zw.S.P := s.sup.ne
  exact verify_ok (net := netOf w n) s hA hB hC hX hY hZ hR netOf_views.1 (fun j hj => by rw [netOf_views.2 j hj]; simp) ⟨by show (0 : Int) ≤ 0; omega, by show (0 : Int) ≤ 900; omega⟩
theorem law_Agreement (q : T_privitylaw25_Ask) (hK : ∀ x ∈ q.W.Deviations, x.K < 18446744073709551616) : privitylaw25_TriplestoreVerifyAgreement q = some true := by
  unfold privitylaw25_TriplestoreVerifyAgreement
  obtain ⟨b, e, hb⟩ := fair25_ok hK
  rw [aw25, bS, nT, cF, e, bS]
  cases b with
  | false => rw [nF, cT]
  | true =>
    obtain ⟨n, t, v, h7⟩ := hb rfl
    have s := v.toSc
    have hp := s.sup
    haveI : NeZero q.W.S.P := hp.ne
    have hlt := hp.lt
    have h13 := s.n13
    have a0 := h7 0 (by omega)
    have a1 := h7 1 (by omega)
    have a2 := h7 2 (by omega)
    have b0 := h7 3 (by omega)
    have b1 := h7 4 (by omega)
    have b2 := h7 5 (by omega)
    have r0 := h7 6 (by omega)
    change q.A.e0.length = _ ∧ Lt _ q.A.e0 at a0
    change q.A.e1.length = _ ∧ Lt _ q.A.e1 at a1
    change q.A.e2.length = _ ∧ Lt _ q.A.e2 at a2
    change q.B.e0.length = _ ∧ Lt _ q.B.e0 at b0
    change q.B.e1.length = _ ∧ Lt _ q.B.e1 at b1
    change q.B.e2.length = _ ∧ Lt _ q.B.e2 at b2
    change q.R.length = _ ∧ Lt _ q.R at r0
    obtain ⟨A, B, C, eA, sA, sB, sC⟩ := of_ok v.par a0 a1 a2
    obtain ⟨X, Y, Z, eX, sX, sY, sZ⟩ := of_ok v.par b0 b1 b2
    obtain ⟨R, eR, sR'⟩ := row25_ok v.par r0.2 r0.1
    obtain ⟨out, rd, views, ev, o1, o2⟩ := vfy s sA sB sC sX sY sZ sR'
    have lt := fun {l : List Nat} (h : l.length = t + 1 ∧ Lt q.W.S.P l) => h.2 0 (by omega)
    have hm : ∀ a : Nat, a % q.W.S.P < q.W.S.P := fun a => Nat.mod_lt _ hp.pos
    obtain ⟨y1, ey1, y1l, y1o⟩ := refSub_ok hp (lt a2) (hm (q.A.e0.getD 0 0 * q.A.e1.getD 0 0))
    obtain ⟨y2, ey2, y2l, y2o⟩ := refSub_ok hp (lt b2) (hm (q.B.e0.getD 0 0 * q.B.e1.getD 0 0))
    obtain ⟨h, eh, hl0, hln, hh⟩ := parties_ok s
    have la0 := lt a0
    have la1 := lt a1
    have lb0 := lt b0
    have lb1 := lt b1
    have lr0 := lt r0
    rw [nT, cF, new_ok v, bS, sR, eA, bS, eX, bS, eR, bS, ev, bS, ix 0 (by omega), bS, ix 0 (by omega), bS, ix 0 (by omega), bS, ix 0 (by omega), bS, refMul_ok hp la0 (by omega), bS, ey1, bS, refMul_ok hp lr0 (by omega), bS, ix 0 (by omega), bS, ix 0 (by omega), bS, ix 0 (by omega), bS, refMul_ok hp lb0 (by omega), bS, ey2, bS]
    simp only
    rw [o1, s.N, qF rfl, cF]
    rw [eh, bS, Nat.sub_zero]
    have hlr := hm (q.R.getD 0 0 * y1)
    have hk : ∀ j, j < n → out.getD j false = (((q.R.getD 0 0 * y1 % q.W.S.P : Nat) : Int) == ((y2 : Nat) : Int)) := fun j hj => by
      rw [Bool.eq_iff_iff, o2 j hj, beq_iff_eq]
      have e1 : o q.W.S.P (q.R.getD 0 0 * y1 % q.W.S.P) = o q.W.S.P (q.R.getD 0 0) * (o q.W.S.P (q.A.e2.getD 0 0) - o q.W.S.P (q.A.e0.getD 0 0) * o q.W.S.P (q.A.e1.getD 0 0)) := by
        rw [o_mod, o_mul, y1o, o_mod, o_mul]
      have e2 : o q.W.S.P y2 = o q.W.S.P (q.B.e2.getD 0 0) - o q.W.S.P (q.B.e0.getD 0 0) * o q.W.S.P (q.B.e1.getD 0 0) := by
        rw [y2o, o_mod, o_mul]
      rw [← e1, ← e2]
      constructor
      · intro h; rw [o_inj hlr y2l h]
      · intro h
        have : q.R.getD 0 0 * y1 % q.W.S.P = y2 := by omega
        rw [this]
    obtain ⟨o3, eo, ho⟩ := rgO_inv (body := fun k1 (st : Unit) => privitylaw25_TriplestoreVerifyAgreement_L0 (out, rd, views) (q.R.getD 0 0 * y1 % q.W.S.P) y2 h k1) (fun _ _ => True) (fun _ => False) (rem := h.length) (k := 0) (s := ()) trivial (fun k _ _ hk' _ => by
      obtain ⟨i, hi, he⟩ := hh k (by omega)
      have ei : ((i : Nat) : Int) + 1 - 1 = (i : Int) := by omega
      unfold privitylaw25_TriplestoreVerifyAgreement_L0
      rw [ix 0 (by omega), bS, he, subI_some (by omega) (by omega), bS, ei]
      simp only
      rw [idx_getD false (by omega) (by omega), bS, Int.toNat_natCast, hk i hi]
      have hbne : ∀ b : Bool, (b != b) = false := fun b => by cases b <;> rfl
      rw [hbne, cF]
      exact ⟨_, rfl, trivial⟩)
    rw [eo, bS]
    cases o3 with
    | fin _ => exact ho.elim
    | go _ => rw [oG]
/-- the first word of a list is another one -/
theorem cut1_ok {p t : Nat} {l : List Nat} {y : Nat} (ht : t ≤ 13) (hl : l.length = t + 1 ∧ Lt p l) (hy : y < p) : ∃ l1, cutO l (1 : Int) ((l.length : Nat) : Int) = some l1 ∧ appO 8 [y] l1 = some (y :: l1) ∧ (y :: l1).length = t + 1 ∧ Lt p (y :: l1) := by
  have e1 : (1 : Int).toNat = 1 := rfl
  refine ⟨l.drop 1, ?_, ?_, ?_, ?_⟩
  · rw [cutO_some (by omega) (by omega) (by omega), Int.toNat_natCast, e1, List.take_of_length_le (by rw [List.length_drop]; omega)]
  · rw [appO_some (by simp only [List.length_cons, List.length_nil, List.length_drop]; omega) (by simp only [List.length_cons, List.length_nil, List.length_drop]; omega)]; rfl
  · rw [List.length_cons, List.length_drop]; omega
  · intro i hi
    cases i with
    | zero => exact hy
    | succ i =>
      rw [List.length_cons, List.length_drop] at hi
      have := hl.2 (i + 1) (by omega)
      rw [List.getD_cons_succ, List.getD_eq_getElem?_getD, List.getElem?_drop, Nat.add_comm, ← List.getD_eq_getElem?_getD]
      exact this
theorem rgS_put {α : Type} {body : Nat → List α → Option (List α)} (v : Nat → α) {n : Nat} {l0 : List α} (h0 : l0.length = n) (h : ∀ j l, j < n → l.length = n → body j l = some (l.set j (v j))) : rgS body n 0 l0 = some ((List.range n).map v) := by
  obtain ⟨r, e, h1, h2⟩ := rgS_inv (body := body) (fun k l => l.length = n ∧ ∀ i, i < k → l[i]? = some (v i)) (rem := n) (k := 0) (s := l0) ⟨h0, fun i hi => by omega⟩ (fun j l _ hj ⟨h1, h2⟩ => by
    refine ⟨_, h j l (by omega) h1, by rw [List.length_set]; exact h1, fun i hi => ?_⟩
    rw [List.getElem?_set]
    by_cases g : j = i
    · subst g; rw [if_pos rfl, if_pos (by omega)]
    · rw [if_neg g]; exact h2 i (by omega))
  rw [Nat.zero_add] at h2
  rw [e]
  congr 1
  refine List.ext_getElem (by simp [h1]) fun i h3 h4 => ?_
  have := h2 i (by omega)
  rw [List.getElem?_eq_getElem h3] at this
  rw [Option.some.inj this]; simp
theorem scale25_ok {p : Nat} [NeZero p] (hp : Sup p) {n t k : Nat} {M : List (List Nat)} {g : Nat → Fin p} (hn : n ≤ 13) (ht : t ≤ 13) (hk : k < p) (hM : Sg p n t M g) : ∃ M', shamir_Scale p k M = some M' ∧ Sg p n t M' (fun c => o p k * g c) := by
  refine ⟨tab n (t + 1) fun i j => k * (M.getD i []).getD j 0 % p, ?_, tab_Mat fun i hi j hj => Nat.mod_lt _ hp.pos, fun i hi => ?_⟩
  · unfold shamir_Scale shamir_words_shamir_Scale_1 shamir_pairs_Luint64_Luint64_shamir_words_1 tab
    rw [hM.mat.len, mkO_some (by omega) (by omega) (by omega) (by omega), bS, Int.toNat_natCast, Nat.sub_zero, rgS_put (fun i => (List.range (t + 1)).map fun j => k * (M.getD i []).getD j 0 % p) (by simp) (fun i l hi hl => by
      unfold shamir_pairs_Luint64_Luint64_shamir_words_1_L0 shamir_words_1 shamir_pairs_uint64_uint64_shamir_words_1_1
      rw [hM.mat.some hi, bS, bS, hM.mat.row i hi, mkO_some (by omega) (by omega) (by omega) (by omega), bS, Int.toNat_natCast, Nat.sub_zero, rgS_put (fun j => k * (M.getD i []).getD j 0 % p) (by simp) (fun j l hj hl => by
        unfold shamir_pairs_uint64_uint64_shamir_words_1_1_L0 shamir_words_1_1 shamir_Scale_1
        rw [rd hM.mat hi hj, bS, bS, mul_ok hp hk (hM.mat.lt i hi j hj), bS, bS, bS, ix 0 (by omega), bS, bS]), bS, bS, bS, ix [] (by omega), bS, bS]), bS, bS, bS]
  · rw [tab_get hi (by omega), o_mod, o_mul, hM.val i hi, ← sm_mul]
    exact sm_congr fun c hc => by grind
end Pu
