/- Plain laws of chapter 25: verifying triples as the reference does. -/
import Derived.Test.YtclhpomlfadohaaGreatDoorPh6
import Derived.Test.YtclhpomlfadohaaGreatDoorPf1
set_option linter.unusedVariables false
namespace Pu
open Gw Gl Sp Lean.Grind
theorem aw25 : privitylaw25_awake = some true := by decide +kernel
theorem refSub' {p a b : Nat} [NeZero p] (hp : Sup p) (ha : a < p) (hb : b < p) : ∃ y, privityref01_Sub p a b = some y ∧ y < p ∧ o p y = o p a - o p b := by
  have hlt := hp.lt
  unfold privityref01_Sub
  have h1 : addU a p = a + p := by unfold addU; omega
  rw [bS, h1, subU_ok (by omega) (by omega), bS]
  unfold remU
  rw [if_neg (by omega), bS]
  refine ⟨_, rfl, Nat.mod_lt _ hp.pos, ?_⟩
  rw [o_mod, o_sub (by omega), o_add, o_self]; grind
def seven (q : T_privitylaw25_Ask) : List (List Nat) := [q.A.e0, q.A.e1, q.A.e2, q.B.e0, q.B.e1, q.B.e2, q.R]
theorem fair25_ok {q : T_privitylaw25_Ask} (hK : ∀ x ∈ q.W.Deviations, x.K < 18446744073709551616) : ∃ b, privitylaw25_fair q = some b ∧ (b = true → ∃ n t, (Va q.W n t ∧ privityref12_ValidScenario q.W = some true) ∧ ∀ i, i < 7 → ((seven q).getD i []).length = t + 1 ∧ Lt q.W.S.P ((seven q).getD i [])) := by
  unfold privitylaw25_fair
  obtain ⟨b, e, hb⟩ := light_ok (w := q.W) (parties := ((7 : Nat) : Int)) (lies := ((8 : Nat) : Int)) (words := ((10 : Nat) : Int)) hK (by omega) (by omega)
  rw [e, bS]
  cases b with
  | false => rw [nF, cT]; exact ⟨_, rfl, fun h => by cases h⟩
  | true =>
    obtain ⟨n, t, v, hv⟩ := hb rfl
    have h3 := v.t3
    have h13 := v.n13
    rw [nT, cF]
    have e7 : ([q.A.e0, q.A.e1, q.A.e2, q.B.e0, q.B.e1, q.B.e2, q.R] : List (List Nat)).length - 0 = 7 := rfl
    obtain ⟨o1, eo, ho⟩ := rgO_inv (body := fun k1 (st : Unit) => privitylaw25_fair_L0 q k1) (fun k _ => ∀ i, i < k → ((seven q).getD i []).length = t + 1 ∧ Lt q.W.S.P ((seven q).getD i [])) (fun r => r = false) (rem := 7) (k := 0) (s := ()) (fun i hi => by omega) (fun k _ _ hk h => by
      have hk7 : k < (seven q).length := by show k < 7; omega
      unfold privitylaw25_fair_L0
      show ∃ o, ((seven q)[k]? >>= _) = some o ∧ _
      rw [ix [] hk7, bS, addI_some (by rw [v.T]; omega) (by rw [v.T]; omega), bS]
      by_cases g : ((seven q).getD k []).length = t + 1
      · rw [qF (by rw [v.T]; omega), cF]
        obtain ⟨b, e, hb⟩ := refBelow (p := q.W.S.P) (l := (seven q).getD k [])
        rw [e, bS]
        cases b with
        | false => rw [nF, cT]; exact ⟨_, rfl, rfl⟩
        | true =>
          rw [nT, cF]
          refine ⟨_, rfl, fun i hi => ?_⟩
          by_cases c : i = k
          · subst c; exact ⟨g, hb rfl⟩
          · exact h i (by omega)
      · rw [qT (by rw [v.T]; omega), cT]; exact ⟨_, rfl, rfl⟩)
    rw [e7, eo, bS]
    cases o1 with
    | fin r => rw [oF]; exact ⟨_, rfl, fun h => by rw [ho] at h; cases h⟩
    | go _ => rw [oG]; exact ⟨_, rfl, fun _ => ⟨n, t, ⟨v, hv⟩, fun i hi => ho i (by omega)⟩⟩
theorem of_ok {s : T_api_Params} {n t : Nat} [NeZero s.P] (par : Par s n t) {l : T_arr3_30} (h0 : l.e0.length = t + 1 ∧ Lt s.P l.e0) (h1 : l.e1.length = t + 1 ∧ Lt s.P l.e1) (h2 : l.e2.length = t + 1 ∧ Lt s.P l.e2) :
    ∃ A B C, privitylaw25_of s l = some ⟨A, B, C⟩ ∧ Sg s.P n t A (fun c => o s.P (l.e0.getD c 0)) ∧ Sg s.P n t B (fun c => o s.P (l.e1.getD c 0)) ∧ Sg s.P n t C (fun c => o s.P (l.e2.getD c 0)) := by
  obtain ⟨A, eA, sA⟩ := row25_ok par h0.2 h0.1
  obtain ⟨B, eB, sB⟩ := row25_ok par h1.2 h1.1
  obtain ⟨C, eC, sC⟩ := row25_ok par h2.2 h2.1
  unfold privitylaw25_of
  rw [eA, bS, eB, bS, eC, bS]
  exact ⟨A, B, C, rfl, sA, sB, sC⟩
section
variable {p : Nat} [NeZero p]
theorem less_val {n t i : Nat} {X Y M : List (List Nat)} {gx gy : Nat → Fin p} {κ : Fin p} (hX : Sg p n t X gx) (hY : Sg p n t Y gy) (hM : Sg p n t M (fun c => κ * gx c - gy c)) (hi : i < n) : o p ((M.getD i []).getD 0 0) = κ * o p ((X.getD i []).getD 0 0) - o p ((Y.getD i []).getD 0 0) := by
  have e : ∀ a b : Fin p, a - b = a + (-1) * b := fun a b => by grind
  rw [hM.val i hi, hX.val i hi, hY.val i hi, ← sm_mul, e, ← sm_mul, ← sm_add]
  exact sm_congr fun c hc => by grind
theorem minus_val {n t i : Nat} {X Y M : List (List Nat)} {gx gy : Nat → Fin p} (hX : Sg p n t X gx) (hY : Sg p n t Y gy) (hM : Sg p n t M (fun c => gx c - gy c)) (hi : i < n) : o p ((M.getD i []).getD 0 0) = o p ((X.getD i []).getD 0 0) - o p ((Y.getD i []).getD 0 0) := by
  have e : ∀ a b : Fin p, a - b = a + (-1) * b := fun a b => by grind
  rw [hM.val i hi, hX.val i hi, hY.val i hi, e, ← sm_mul, ← sm_add]
  exact sm_congr fun c hc => by grind
theorem last_val {n t i : Nat} {L X Y M : List (List Nat)} {gl gx gy : Nat → Fin p} {u v : Fin p} (hL : Sg p n t L gl) (hX : Sg p n t X gx) (hY : Sg p n t Y gy) (hM : Sg p n t M (fun c => gl c - (u * gy c + v * gx c + (if c = 0 then u * v else 0)))) (hi : i < n) : o p ((M.getD i []).getD 0 0) = o p ((L.getD i []).getD 0 0) - (u * o p ((Y.getD i []).getD 0 0) + v * o p ((X.getD i []).getD 0 0) + u * v) := by
  rw [hM.val i hi, hL.val i hi, hX.val i hi, hY.val i hi]
  have e1 : sm (t + 1) (fun c => (gl c - (u * gy c + v * gx c + (if c = 0 then u * v else 0))) * o p (i + 1) ^ c) = sm (t + 1) (fun c => gl c * o p (i + 1) ^ c) + (-1) * (u * sm (t + 1) (fun c => gy c * o p (i + 1) ^ c) + v * sm (t + 1) (fun c => gx c * o p (i + 1) ^ c) + sm (t + 1) (fun c => (if c = 0 then u * v else 0) * o p (i + 1) ^ c)) := by
    rw [← sm_mul, ← sm_mul, ← sm_add, ← sm_add, ← sm_mul, ← sm_add]
    exact sm_congr fun c hc => by grind
  rw [e1, sm_one]; grind
end
theorem bnd' {α β : Type} {x : Option α} {f : α → Option β} {y : β} (h : (x >>= f) = some y) : ∃ a, x = some a ∧ f a = some y := by
  cases x with
  | none => cases h
  | some a => exact ⟨a, rfl, h⟩
theorem refCoef_ok {f : List Nat} : privityref04_Coefficient f ((0 : Nat) : Int) = some (f.getD 0 0) := by
  unfold privityref04_Coefficient
  rw [dF (by omega), cF]
  by_cases g : f.length = 0
  · rw [dT (by omega), cT, List.eq_nil_of_length_eq_zero g]; rfl
  · rw [dF (by omega), cF, idx_getD 0 (by omega) (by omega), bS]; rfl
theorem caught_ok {l : List Bool} {n : Nat} (hl : l.length = n) (hn : n ≤ 100) : ∃ r, privityref20_numbers l = some r := by
  unfold privityref20_numbers
  rw [hl, Nat.sub_zero]
  obtain ⟨r, e, _⟩ := rgS_inv (body := fun k1 (st : (List Int)) => privityref20_numbers_L0 l k1 st) (rem := n) (k := 0) (s := ([] : List Int)) (fun k r => r.length ≤ k) (by simp) (fun k r _ hk hr => by
    unfold privityref20_numbers_L0
    rw [ix false (by omega), bS]
    cases l.getD k false with
    | true =>
      rw [cT, addI_some (by omega) (by omega), bS, appO_some (by simp only [List.length_cons, List.length_nil]; omega) (by simp only [List.length_cons, List.length_nil]; omega), bS]
      exact ⟨_, rfl, by rw [List.length_append, List.length_cons, List.length_nil]; omega⟩
    | false => rw [cF]; exact ⟨_, rfl, by omega⟩)
  rw [e, bS]; exact ⟨r, rfl⟩
theorem hear_ok {w : T_api_Scenario} {n m j rr : Nat} {r0 : Int} {vw : List (List T_api_Event)} {inn : List (List (List Nat))} {V : List Nat} (h13 : n ≤ 13) (hj : j < n) (hi : inn.length = n) (hV : V.length = m) (hm : m ≤ 20)
    (hD : ∀ k, k < m → ∃ f at_ b, privityref20_Decoded w.S (inn.getD j []) ((k : Nat) : Int) = some (f, at_, b) ∧ f.getD 0 0 = V.getD k 0 ∧ ∀ y ∈ at_, 0 ≤ y ∧ y < (n : Int)) {l : List (List Nat)} (hl : l.length = n) (hlj : l.getD j [] = []) :
    ∃ l10 l11, rgS (fun k2 (st' : (List (List Nat)) × (List Bool)) => privityref20_Values_L1 w (inn, r0, vw) j k2 st'.1 st'.2) m 0 (l, List.replicate n false) = some (l10, l11) ∧ l10.length = n ∧ l11.length = n ∧ l10.getD j [] = V ∧ ∀ i, i ≠ j → l10.getD i [] = l.getD i [] := by
  obtain ⟨⟨l10, l11⟩, e10, d1, d2, d3, d4⟩ := rgS_inv (body := fun k2 (st' : (List (List Nat)) × (List Bool)) => privityref20_Values_L1 w (inn, r0, vw) j k2 st'.1 st'.2) (rem := m) (k := 0) (s := (l, List.replicate n false))
    (fun k q => q.1.length = n ∧ q.2.length = n ∧ q.1.getD j [] = V.take k ∧ ∀ i, i ≠ j → q.1.getD i [] = l.getD i []) ⟨hl, by simp, by rw [hlj]; rfl, fun _ _ => rfl⟩ (fun k q _ hk ⟨d1, d2, d3, d4⟩ => by
      have hkm : k < m := by omega
      obtain ⟨f, at2, b, edd, hval, hall⟩ := hD k hkm
      obtain ⟨q1, q2⟩ := q
      simp only at d1 d2 d3 d4
      have hqj : (q1.getD j []).length = k := by rw [d3, List.length_take]; omega
      obtain ⟨l15, e15, z1⟩ := rgS_inv (body := fun k3 (st' : (List Bool)) => privityref20_Values_L2 (f, at2, b) k3 st') (rem := at2.length) (k := 0) (s := q2) (fun a l => l.length = n) d2 (fun a l _ ha hl => by
        have hal : a < at2.length := by omega
        have hab : 0 ≤ at2.getD a 0 ∧ at2.getD a 0 < n := by
          have hmem : at2.getD a 0 ∈ at2 := by rw [List.getD_eq_getElem?_getD, List.getElem?_eq_getElem hal]; exact List.getElem_mem hal
          exact hall _ hmem
        unfold privityref20_Values_L2
        simp only
        rw [ix 0 hal, bS, idx_getD false (by omega) (by omega), bS, bS]
        exact ⟨_, rfl, by rw [List.length_set]; exact hl⟩)
      refine ⟨(q1.set j (q1.getD j [] ++ [f.getD 0 0]), l15), ?_, by show (q1.set j _).length = n; rw [List.length_set]; exact d1, z1, ?_, fun i hi => ?_⟩
      · unfold privityref20_Values_L1
        simp only
        rw [ix [] (by omega), bS, edd, bS, ix [] (by omega), bS]
        simp only
        rw [refCoef_ok, bS, appO_some (by rw [hqj]; simp only [List.length_cons, List.length_nil]; omega) (by rw [hqj]; simp only [List.length_cons, List.length_nil]; omega), bS, bS, Nat.sub_zero, e15, bS]
      · show (q1.set j _).getD j [] = _
        rw [getD_set (by omega), if_pos rfl, take_succ' (d := 0) (by omega), d3, hval]
      · show (q1.set j _).getD i [] = _
        rw [getD_set (by omega), if_neg (fun e => hi e.symm)]; exact d4 i hi)
  rw [Nat.zero_add] at d3
  simp only at d1 d2 d3 d4
  exact ⟨l10, l11, e10, d1, d2, by rw [d3, List.take_of_length_le (by omega)], d4⟩
theorem heard_all {w : T_api_Scenario} {n m : Nat} {r0 : Int} {vw : List (List T_api_Event)} {inn : List (List (List Nat))} {sh0 : List Nat} {vals : List (List Nat)} (hN : w.S.N = (n : Int)) (h13 : n ≤ 13) (hi : inn.length = n) (hs : sh0.length = m) (hm : m ≤ 20) (hv : vals.length = n) (hV : ∀ j, j < n → (vals.getD j []).length = m)
    (hD : ∀ j, j < n → ∀ k, k < m → ∃ f at_ b, privityref20_Decoded w.S (inn.getD j []) ((k : Nat) : Int) = some (f, at_, b) ∧ f.getD 0 0 = (vals.getD j []).getD k 0 ∧ ∀ y ∈ at_, 0 ≤ y ∧ y < (n : Int)) :
    ∃ c2, rgS (fun k1 (st : (List (List Nat)) × (List (List Int))) => privityref20_Values_L0 w sh0 (inn, r0, vw) k1 st.1 st.2) n 0 (List.replicate n [], List.replicate n []) = some (vals, c2) := by
  obtain ⟨⟨v2, c2⟩, e2, g1, g2, g3⟩ := rgS_inv (body := fun k1 (st : (List (List Nat)) × (List (List Int))) => privityref20_Values_L0 w sh0 (inn, r0, vw) k1 st.1 st.2) (rem := n) (k := 0) (s := (List.replicate n [], List.replicate n []))
    (fun j st => st.1.length = n ∧ st.2.length = n ∧ ∀ i, i < n → st.1.getD i [] = if i < j then vals.getD i [] else []) ⟨by simp, by simp, fun i hi => by rw [if_neg (by omega)]; simp [List.getD_eq_getElem?_getD, hi]⟩ (fun j st _ hj ⟨g1, g2, g3⟩ => by
      have hjn : j < n := by omega
      obtain ⟨s1, s2⟩ := st
      simp only at g1 g2 g3
      obtain ⟨l10, l11, e10, d1, d2, d3, d4⟩ := hear_ok (rr := 0) (r0 := r0) (vw := vw) h13 hjn hi (hV j hjn) hm (hD j hjn) g1 (by rw [g3 j hjn, if_neg (by omega)])
      obtain ⟨nb, enb⟩ := caught_ok d2 (by omega)
      refine ⟨(l10, s2.set j nb), ?_, d1, by show (s2.set j nb).length = n; rw [List.length_set]; exact g2, fun i hi => ?_⟩
      · unfold privityref20_Values_L0
        simp only
        rw [hN, mkO_some (by omega) (by omega) (by omega) (by omega), bS, hs, ckN_some (by omega), bS, Nat.sub_zero, Int.toNat_natCast, e10, bS]
        simp only
        rw [enb, bS, ix [] (by omega), bS, bS]
      · show l10.getD i [] = _
        by_cases g : i = j
        · subst g
          rw [d3, if_pos (by omega)]
        · rw [d4 i g, g3 i hi]
          by_cases g2 : i < j
          · rw [if_pos g2, if_pos (by omega)]
          · rw [if_neg g2, if_neg (by omega)])
  rw [Nat.zero_add] at g3
  simp only at g1 g2 g3
  have hvv : v2 = vals := list_ext' (d := []) (by omega) (fun i hi => by rw [g3 i (by omega), if_pos (by omega)])
  exact ⟨c2, by rw [← hvv]; exact e2⟩
set_option maxHeartbeats 2000000 in
/-- opening values, as the reference does -/
theorem values_ok2 {net : T_network_Net} {mn : T_privityref14_Net} (hz : mn.zw = net.zw) (hzr : mn.zround = net.zround) (hzv : mn.zviews = net.zviews) {n t m : Nat} [NeZero net.zw.S.P] (s : Sc net.zw n t) {sh : List (List Nat)} (h1 : sh.length = n) (h2 : ∀ i, i < n → Lt net.zw.S.P (sh.getD i []) ∧ (sh.getD i []).length = m) (hm : m ≤ 20) (hm0 : 0 < m) (hv : net.zviews.length = n) (hb : ∀ j, j < n → (net.zviews.getD j []).length ≤ 500) (hr : 0 ≤ net.zround ∧ net.zround ≤ 1000)
    (f0 : Nat → List Nat) (hf : ∀ k, k < m → (f0 k).length ≤ t + 1) (hh : ∀ i, i < n → (((i : Nat) : Int) + 1) ∉ net.zw.Corrupt → ∀ k, k < m → o net.zw.S.P ((sh.getD i []).getD k 0) = evl (P net.zw.S.P (f0 k)) (o net.zw.S.P (i + 1))) :
    ∃ vals caught caught' views, reconstruct_Values net sh = some (vals, caught, net.zround + 1, views) ∧ privityref20_Values mn sh = some (vals, caught', net.zround + 1, views) ∧ vals.length = n ∧ views.length = n ∧ (∀ j, j < n → (views.getD j []).length ≤ (net.zviews.getD j []).length + n) ∧
      ∀ j, j < n → (vals.getD j []).length = m ∧ ∀ k, k < m → (vals.getD j []).getD k 0 < net.zw.S.P ∧ o net.zw.S.P ((vals.getD j []).getD k 0) = o net.zw.S.P ((f0 k).getD 0 0) := by
  have hp := s.sup
  have hlt := hp.lt
  have h13 := s.n13
  have h4 := s.n4
  have h3t := s.t3
  obtain ⟨_, vals, caught, r, views, e, _, _, _, b4, _, b6, b7, _, b9⟩ := values_ok s h1 h2 hm hv hb hr f0 hf hh
  obtain ⟨all, heard, views', es, a1, a2, a3, a4, a5, a6, out, inn, o1, o2, o3, en, i1, i2⟩ := said_ok2 (L := 20) (m := m) s h1 (fun i hi => ⟨(h2 i hi).1, by rw [(h2 i hi).2]; exact hm⟩) (by omega) (by omega) hv hb hr
  have hrv : r = net.zround + 1 ∧ views = views' := by
    have e' := e
    unfold reconstruct_Values network_Net_Scenario at e'
    rw [bS, s.N, mkO_some (by omega) (by omega) (by omega) (by omega), bS, mkO_some (by omega) (by omega) (by omega) (by omega), bS, Int.toNat_natCast, ix [] (by omega), bS, (h2 0 (by omega)).2, eF (by omega), cF, es, bS] at e'
    obtain ⟨⟨q1, q2⟩, _, h⟩ := bnd' e'
    have h := Option.some.inj h
    exact ⟨(congrArg (fun x => x.2.2.1) h).symm, (congrArg (fun x => x.2.2.2) h).symm⟩
  obtain ⟨rfl, rfl⟩ := hrv
  refine ⟨vals, caught, ?_⟩
  have hx : ∃ caught', privityref20_Values mn sh = some (vals, caught', net.zround + 1, views) := by
    have hmx : max 0 n = n := by omega
    have eN : mn.zw.S.N = (n : Int) := by rw [hz]; exact s.N
    unfold privityref20_Values privityref14_Net_Scenario
    rw [bS, eN, mkO_some (by omega) (by omega) (by omega) (by omega), bS, mkO_some (by omega) (by omega) (by omega) (by omega), bS, Int.toNat_natCast, ix [] (by omega), bS, (h2 0 (by omega)).2, eF (by omega), cF, hmx]
    obtain ⟨out', eo, q1, q2⟩ := refLists_ok h1 (by omega)
    have hout : out' = out := list_ext' (d := []) (by omega) (fun i hi => by rw [q2 i (by omega), o2 i (by omega)])
    have es' := refSend_ok (L := 20) s hz hzr hzv o3 (by omega) en
    obtain ⟨c2, e2⟩ := heard_all (w := net.zw) (r0 := net.zround + 1) (vw := views) (inn := inn) (sh0 := sh.getD 0 []) (vals := vals) s.N h13 i1 (h2 0 (by omega)).2 hm b4 (fun j hj => (b7 j hj).1) (fun j hj k hk => by
      obtain ⟨c1, c3⟩ := b7 j hj
      obtain ⟨x1, x2⟩ := i2 j hj
      obtain ⟨pts, f, at_, ep, ed, f1, f2, f3, f4⟩ := heard_ok s a1 hj (hf k hk) (fun i hi hc => by rw [a2 i hi hc j hj]; exact hh i hi hc k hk)
      have hwl : (wd all n j k).length = n := wd_len
      have hwp : Lt net.zw.S.P (wd all n j k) := fun i hi => by
        rw [hwl] at hi
        rw [wd_get hi]
        exact (a1.w i hi j hj).1.get hp.pos k
      obtain ⟨pts', ep', p1, p2⟩ := points_ok (w := wd all n j k) (by omega)
      have hpp : pts' = pts := Option.some.inj (ep'.symm.trans ep)
      subst hpp
      have hP := pts_ok hp hwp (by omega) p1 p2
      obtain ⟨g, at2, e2, f', b, ed2, edd, y1, y2⟩ := decoded_ok (s := net.zw.S) (k := k) hp s.N s.T h13 h3t (heard := inn.getD j []) x1 (by omega) (by omega) (fun i hi => by rw [p2 i (by omega), wd_get hi, x2 i hi]) hP
      rw [s.T, ed2] at ed
      have hgf : g = f := (Prod.mk.inj (Option.some.inj ed)).1
      have hat : at2 = at_ := (Prod.mk.inj (Prod.mk.inj (Option.some.inj ed)).2).1
      refine ⟨f', at2, b, edd, ?_, fun y hy => ?_⟩
      · rw [← y2 0, hgf]
        exact o_inj (f1.get hp.pos 0) (c3 k hk).1 (by rw [f3 0, (c3 k hk).2])
      · rw [hat, f4] at hy
        obtain ⟨i, hi, hie⟩ := List.mem_map.1 hy
        have hi2 := (List.mem_filter.1 hi).1
        have hi3 : i < n := by simpa using hi2
        omega)
    rw [eo, bS, hout, es', bS, ckN_some (by omega), bS, Nat.sub_zero, hz, e2, bS]
    exact ⟨c2, rfl⟩
  obtain ⟨caught', ec⟩ := hx
  exact ⟨caught', views, e, ec, b4, b6, fun j hj => (b9 j hj).2, b7⟩
/-- opening sharings, both ways -/
theorem open_ok2 {net : T_network_Net} {mn : T_privityref14_Net} (hz : mn.zw = net.zw) (hzr : mn.zround = net.zround) (hzv : mn.zviews = net.zviews) {n t : Nat} [NeZero net.zw.S.P] (s : Sc net.zw n t) {Ms : List (List (List Nat))} {gs : Nat → Nat → Fin net.zw.S.P} (h0 : 0 < Ms.length) (hl : Ms.length ≤ 20) (h : ∀ k, k < Ms.length → Sg net.zw.S.P n t (Ms.getD k []) (gs k)) (hv : net.zviews.length = n) (hb : ∀ j, j < n → (net.zviews.getD j []).length ≤ 500) (hr : 0 ≤ net.zround ∧ net.zround ≤ 1000) :
    ∃ vals caught caught' views, triplestore_first Ms = some ((List.range n).map fun j => (List.range Ms.length).map fun k => ((Ms.getD k []).getD j []).getD 0 0) ∧ reconstruct_Values net ((List.range n).map fun j => (List.range Ms.length).map fun k => ((Ms.getD k []).getD j []).getD 0 0) = some (vals, caught, net.zround + 1, views) ∧ privityref20_Values mn ((List.range n).map fun j => (List.range Ms.length).map fun k => ((Ms.getD k []).getD j []).getD 0 0) = some (vals, caught', net.zround + 1, views) ∧ views.length = n ∧ (∀ j, j < n → (views.getD j []).length ≤ (net.zviews.getD j []).length + n) ∧ vals.length = n ∧
      ∀ j, j < n → (vals.getD j []).length = Ms.length ∧ ∀ k, k < Ms.length → (vals.getD j []).getD k 0 < net.zw.S.P ∧ o net.zw.S.P ((vals.getD j []).getD k 0) = gs k 0 := by
  have hp := s.sup
  have h13 := s.n13
  have h4 := s.n4
  have h3 := s.t3
  obtain ⟨vals, caught, caught', views, e, e', a4, a6, a9, a7⟩ := values_ok2 (m := Ms.length) hz hzr hzv s (sh := (List.range n).map fun j => (List.range Ms.length).map fun k => ((Ms.getD k []).getD j []).getD 0 0) (by simp) (fun i hi => by
    constructor
    · intro q hq
      have hq' : q < Ms.length := by simpa [List.getD_eq_getElem?_getD, hi] using hq
      rw [first_get hi hq']
      exact (h q hq').mat.lt i hi 0 (by omega)
    · simp [List.getD_eq_getElem?_getD, hi]) (by omega) h0 hv hb hr (fun k => pol t (gs k)) (fun k hk => by rw [pol_len]; exact Nat.le_refl _) (fun i hi _ k hk => by
      rw [first_get hi hk, (h k hk).val i hi, pol_evl])
  refine ⟨vals, caught, caught', views, first_ok (by omega) h0 (by omega) (fun k hk => (h k hk).mat), e, e', a6, a9, a4, fun j hj => ⟨(a7 j hj).1, fun k hk => ?_⟩⟩
  obtain ⟨b1, b2⟩ := (a7 j hj).2 k hk
  exact ⟨b1, by rw [b2, pol_get (by omega)]⟩
theorem map_tab {n : Nat} {α : Type} {d : α} {v : Nat → α} : (List.range n).map (fun j => ((List.range n).map v).getD j d) = (List.range n).map v :=
  list_ext' (d := d) (by simp) (fun i hi => by
    have hi : i < n := by simpa using hi
    simp [List.getD_eq_getElem?_getD, hi])
/-- the reference's shares of one sharing -/
theorem local_ok {p n m : Nat} {R : List (List Nat)} (hn : n ≤ 100) (hR : Mat p n (m + 1) R) : privityref09_LocalShares [R] = some ((List.range n).map fun j => (List.range [R].length).map fun k => (([R].getD k []).getD j []).getD 0 0) := by
  unfold privityref09_LocalShares
  have e1 : [R].length = 1 := rfl
  rw [eF (by rw [e1]; omega), cF]
  obtain ⟨r, e, hr⟩ := lpO_big (step := fun (st : (List (List Nat)) × Int) => privityref09_LocalShares_L0 [R] st.1 st.2) (fun st => ∃ j : Nat, st.2 = j ∧ j ≤ n ∧ st.1 = (List.range j).map fun j => (List.range [R].length).map fun k => (([R].getD k []).getD j []).getD 0 0)
    (fun r => r = (List.range n).map fun j => (List.range [R].length).map fun k => (([R].getD k []).getD j []).getD 0 0) (fun st => n - st.2.toNat) (fun st ⟨j, h1, h2, h3⟩ => by
      obtain ⟨l, x⟩ := st
      replace h1 : x = j := h1
      replace h3 : l = _ := h3
      subst h1
      have hll : l.length = j := by rw [h3]; simp
      show ∃ q, privityref09_LocalShares_L0 [R] l ((j : Nat) : Int) = some q ∧ _
      unfold privityref09_LocalShares_L0
      have e0 : [R].getD 0 [] = R := rfl
      rw [ix [] (by rw [e1]; omega), bS, e0, hR.len]
      by_cases c : j < n
      · have hrow := hR.row j c
        have e2 : rgS (fun k2 (st : (List Nat)) => privityref09_LocalShares_L1 [R] ((j : Nat) : Int) k2 st) ([R].length - 0) 0 ([] : List Nat) = some ((List.range [R].length).map fun k => (([R].getD k []).getD j []).getD 0 0) := by
          rw [Nat.sub_zero]
          exact rgS_tab (fun k => (([R].getD k []).getD j []).getD 0 0) (fun k l hk hl => by
            have hk0 : k = 0 := by rw [e1] at hk; omega
            subst hk0
            unfold privityref09_LocalShares_L1
            rw [ix [] hk, bS, e0, idx_getD [] (by omega) (by rw [hR.len]; omega), bS, Int.toNat_natCast, ix 0 (by omega), bS, ap1 (by omega) (by omega), bS])
        rw [dT (by omega), cT, e2, bS, ap1 (by omega) (by omega), bS, addI_some (by omega) (by omega), bS]
        refine ⟨_, rfl, ⟨j + 1, by show ((j : Nat) : Int) + 1 = _; omega, by omega, ?_⟩, by show n - ((j : Int) + 1).toNat < n - ((j : Nat) : Int).toNat; omega⟩
        show l ++ _ = _
        rw [h3, List.range_succ, List.map_append]; rfl
      · rw [dF (by omega), cF]
        refine ⟨_, rfl, ?_⟩
        show l = _
        rw [h3]
        have : j = n := by omega
        rw [this])
    (s := ([], ((0 : Nat) : Int))) ⟨0, rfl, by omega, rfl⟩ (by show n - _ < _; omega)
  rw [e, bS, hr]
set_option maxHeartbeats 2000000 in
/-- verifying a triple, both ways -/
theorem verify_ok2 {net : T_network_Net} {mn : T_privityref14_Net} (hz : mn.zw = net.zw) (hzr : mn.zround = net.zround) (hzv : mn.zviews = net.zviews) {n t : Nat} [NeZero net.zw.S.P] (s : Sc net.zw n t) {A B C X Y Z R : List (List Nat)} {a b c x y z r : Nat → Fin net.zw.S.P} (hA : Sg net.zw.S.P n t A a) (hB : Sg net.zw.S.P n t B b) (hC : Sg net.zw.S.P n t C c) (hX : Sg net.zw.S.P n t X x) (hY : Sg net.zw.S.P n t Y y) (hZ : Sg net.zw.S.P n t Z z) (hR : Sg net.zw.S.P n t R r)
    (hv : net.zviews.length = n) (hb : ∀ j, j < n → (net.zviews.getD j []).length ≤ 400) (hr : 0 ≤ net.zround ∧ net.zround ≤ 900) :
    ∃ out views, triplestore_Verify net ⟨A, B, C⟩ ⟨X, Y, Z⟩ R = some (out, net.zround + 1 + 1 + 1, views) ∧ privityref25_Verify mn ⟨A, B, C⟩ ⟨X, Y, Z⟩ R = some (out, net.zround + 1 + 1 + 1, views) ∧ out.length = n ∧ views.length = n ∧ ∀ j, j < n → (views.getD j []).length ≤ 500 := by
  have hp := s.sup
  have h13 := s.n13
  have h4 := s.n4
  have h3 := s.t3
  have hmx : max 0 ((n : Nat) : Int).toNat = n := by simp
  have eN : mn.zw.S.N = (n : Int) := by rw [hz]; exact s.N
  have hlt := hp.lt
  have hm : ∀ a : Nat, a % net.zw.S.P < net.zw.S.P := fun a => Nat.mod_lt _ hp.pos
  obtain ⟨v1, k1, k1', w1, f1, e1, e1', wl1, wb1, vl1, vv1⟩ := open_ok2 hz hzr hzv s (Ms := [R]) (gs := fun _ => r) (by simp) (by simp) (fun k hk => by
    have : k = 0 := by simpa using hk
    subst this; exact hR) hv (fun j hj => by have := hb j hj; omega) (by omega)
  have hc1 : ∀ j, j < n → (v1.getD j []).length = 1 ∧ (v1.getD j []).getD 0 0 < net.zw.S.P ∧ o net.zw.S.P ((v1.getD j []).getD 0 0) = r 0 := fun j hj => ⟨(vv1 j hj).1, (vv1 j hj).2 0 (by simp)⟩
  obtain ⟨M1, em1, sg1⟩ := less_ok (coin := v1) (κ := r 0) hp (by omega) (by omega) hA hX vl1 hc1
  obtain ⟨M2, em2, sg2⟩ := minus_ok hp (by omega) (by omega) hB hY
  obtain ⟨v2, k2, k2', w2, f2, e2, e2', wl2, wb2, vl2, vv2⟩ := open_ok2 (net := ⟨net.zw, net.zround + 1, w1, net.ztapes⟩) (mn := ⟨mn.zw, net.zround + 1, w1, mn.ztapes⟩) hz rfl rfl s (Ms := [M1, M2]) (gs := fun k => if k = 0 then (fun c => r 0 * a c - x c) else (fun c => b c - y c)) (by simp) (by simp) (fun k hk => by
    have hk : k < 2 := hk
    have : k = 0 ∨ k = 1 := by omega
    rcases this with rfl | rfl
    · exact sg1
    · exact sg2) wl1 (fun j hj => by have := wb1 j hj; have := hb j hj; show (w1.getD j []).length ≤ 500; omega) (by show 0 ≤ net.zround + 1 ∧ net.zround + 1 ≤ 1000; omega)
  obtain ⟨M3, em3, sg3⟩ := less_ok (coin := v1) (κ := r 0) hp (by omega) (by omega) hC hZ vl1 hc1
  have hc2 : ∀ j, j < n → (v2.getD j []).length = 2 ∧ (v2.getD j []).getD 0 0 < net.zw.S.P ∧ (v2.getD j []).getD 1 0 < net.zw.S.P ∧ o net.zw.S.P ((v2.getD j []).getD 0 0) = r 0 * a 0 - x 0 ∧ o net.zw.S.P ((v2.getD j []).getD 1 0) = b 0 - y 0 := fun j hj => by
    obtain ⟨c1, c2⟩ := vv2 j hj
    obtain ⟨d1, d2⟩ := c2 0 (by show 0 < 2; omega)
    obtain ⟨d3, d4⟩ := c2 1 (by show 1 < 2; omega)
    exact ⟨c1, d1, d3, d2, d4⟩
  obtain ⟨M4, em4, sg4⟩ := last_ok (Z := Z) (w := net.zw) (uv := (v2, k2, net.zround + 1 + 1, w2)) (u := r 0 * a 0 - x 0) (v := b 0 - y 0) hp rfl (by omega) (by omega) sg3 hX hY vl2 hc2
  obtain ⟨v3, k3, k3', w3, f3, e3, e3', wl3, wb3, vl3, vv3⟩ := open_ok2 (net := ⟨net.zw, net.zround + 1 + 1, w2, net.ztapes⟩) (mn := ⟨mn.zw, net.zround + 1 + 1, w2, mn.ztapes⟩) hz rfl rfl s (Ms := [M4]) (gs := fun _ c' => (r 0 * c c' - z c') - ((r 0 * a 0 - x 0) * y c' + (b 0 - y 0) * x c' + (if c' = 0 then (r 0 * a 0 - x 0) * (b 0 - y 0) else 0))) (by simp) (by simp) (fun k hk => by
    have : k = 0 := by simpa using hk
    subst this; exact sg4) wl2 (fun j hj => by
      have h1 := wb1 j hj; have h2 := hb j hj; have h3 := wb2 j hj
      replace h3 : (w2.getD j []).length ≤ (w1.getD j []).length + n := h3
      show (w2.getD j []).length ≤ 500; omega) (by
      show 0 ≤ net.zround + 1 + 1 ∧ net.zround + 1 + 1 ≤ 1000; omega)
  refine ⟨(List.range n).map (fun j => (((v3.getD j []).getD 0 0 : Nat) : Int) == (0 : Int)), w3, ?_, ?_, by simp, wl3, fun j hj => ?_⟩
  · unfold triplestore_Verify network_Net_Scenario
    rw [bS, f1, bS, e1, bS]
    simp only
    rw [em1, bS, em2, bS, f2, bS, e2, bS]
    simp only
    rw [em3, bS, sg3.mat.len, Nat.sub_zero, em4, bS, f3, bS, e3, bS]
    simp only
    rw [vl3, Nat.sub_zero, rgS_tab (fun j => (((v3.getD j []).getD 0 0 : Nat) : Int) == (0 : Int)) (fun j l hj hl => by
      have := (vv3 j hj).1
      replace this : (v3.getD j []).length = 1 := this
      unfold triplestore_Verify_L2
      simp only
      rw [ix [] (by omega), bS, ix 0 (by omega), bS, ap1 (by omega) (by omega), bS]), bS]
  · unfold privityref25_Verify privityref14_Net_Scenario
    rw [bS, local_ok (by omega) hR.mat, bS, e1', bS]
    simp only
    rw [eN, hmx, ckN_some (by omega), bS, Nat.sub_zero, hz, rgS_tab (fun j => ((List.range n).map fun j => (List.range [M1, M2].length).map fun k => (([M1, M2].getD k []).getD j []).getD 0 0).getD j []) (fun j l hj hl => by
      obtain ⟨c1, c2, c3⟩ := hc1 j hj
      have hra := hA.mat.row j hj
      have hrx := hX.mat.row j hj
      have hrb := hB.mat.row j hj
      have hry := hY.mat.row j hj
      obtain ⟨y1, ey1, y1l, y1o⟩ := refSub' hp (hm ((v1.getD j []).getD 0 0 * (A.getD j []).getD 0 0)) (hX.mat.lt j hj 0 (by omega))
      obtain ⟨y2, ey2, y2l, y2o⟩ := refSub' hp (hB.mat.lt j hj 0 (by omega)) (hY.mat.lt j hj 0 (by omega))
      have la := hA.mat.lt j hj 0 (by omega)
      have q1 : y1 = (M1.getD j []).getD 0 0 := o_inj y1l (sg1.mat.lt j hj 0 (by omega)) (by rw [y1o, o_mod, o_mul, c3, less_val hA hX sg1 hj])
      have q2 : y2 = (M2.getD j []).getD 0 0 := o_inj y2l (sg2.mat.lt j hj 0 (by omega)) (by rw [y2o, minus_val hB hY sg2 hj])
      have hrow : ((List.range n).map fun j => (List.range [M1, M2].length).map fun k => (([M1, M2].getD k []).getD j []).getD 0 0).getD j [] = [y1, y2] := by
        have e4 : ((List.range n).map fun j => (List.range [M1, M2].length).map fun k => (([M1, M2].getD k []).getD j []).getD 0 0).getD j [] = (List.range [M1, M2].length).map fun k => (([M1, M2].getD k []).getD j []).getD 0 0 := by simp [List.getD_eq_getElem?_getD, hj]
        rw [e4, q1, q2]; rfl
      rw [hrow]
      unfold privityref25_Verify_L0
      simp only
      rw [ix [] (by omega), bS, ix 0 (by omega), bS, hA.mat.some hj, bS, ix 0 (by omega), bS, refMul_ok hp c2 (by omega), bS, hX.mat.some hj, bS, ix 0 (by omega), bS, ey1, bS, hB.mat.some hj, bS, ix 0 (by omega), bS, hY.mat.some hj, bS, ix 0 (by omega), bS, ey2, bS, ap1 (by omega) (by omega), bS]), bS, map_tab]
    rw [hz] at e2' e3'
    rw [e2', bS]
    simp only
    rw [rgS_tab (fun j => ((List.range n).map fun j => (List.range [M4].length).map fun k => (([M4].getD k []).getD j []).getD 0 0).getD j []) (fun j l hj hl => by
      obtain ⟨c1, c2, c3⟩ := hc1 j hj
      obtain ⟨d1, d2, d3, d4, d5⟩ := hc2 j hj
      have hrc := hC.mat.row j hj
      have hrz := hZ.mat.row j hj
      have hrx := hX.mat.row j hj
      have hry := hY.mat.row j hj
      have lc := hC.mat.lt j hj 0 (by omega)
      have lz := hZ.mat.lt j hj 0 (by omega)
      have lx := hX.mat.lt j hj 0 (by omega)
      have ly := hY.mat.lt j hj 0 (by omega)
      obtain ⟨u1, eu1, u1l, u1o⟩ := refSub' hp (hm ((v1.getD j []).getD 0 0 * (C.getD j []).getD 0 0)) lz
      obtain ⟨u2, eu2, u2l, u2o⟩ := refSub' hp u1l (hm ((v2.getD j []).getD 0 0 * (Y.getD j []).getD 0 0))
      obtain ⟨u3, eu3, u3l, u3o⟩ := refSub' hp u2l (hm ((v2.getD j []).getD 1 0 * (X.getD j []).getD 0 0))
      obtain ⟨u4, eu4, u4l, u4o⟩ := refSub' hp u3l (hm ((v2.getD j []).getD 0 0 * (v2.getD j []).getD 1 0))
      have q1 : u4 = (M4.getD j []).getD 0 0 := o_inj u4l (sg4.mat.lt j hj 0 (by omega)) (by
        rw [u4o, u3o, u2o, u1o, o_mod, o_mod, o_mod, o_mod, o_mul, o_mul, o_mul, o_mul, c3, d4, d5, last_val sg3 hX hY sg4 hj, less_val hC hZ sg3 hj]; grind)
      have hrow : ((List.range n).map fun j => (List.range [M4].length).map fun k => (([M4].getD k []).getD j []).getD 0 0).getD j [] = [u4] := by
        have e4 : ((List.range n).map fun j => (List.range [M4].length).map fun k => (([M4].getD k []).getD j []).getD 0 0).getD j [] = (List.range [M4].length).map fun k => (([M4].getD k []).getD j []).getD 0 0 := by simp [List.getD_eq_getElem?_getD, hj]
        rw [e4, q1]; rfl
      rw [hrow]
      unfold privityref25_Verify_L1
      simp only
      rw [ix [] (by omega), bS, ix 0 (by omega), bS, ix 0 (by omega), bS, ix [] (by omega), bS, ix 0 (by omega), bS, hC.mat.some hj, bS, ix 0 (by omega), bS, refMul_ok hp c2 (by omega), bS, hZ.mat.some hj, bS, ix 0 (by omega), bS, eu1, bS, hY.mat.some hj, bS, ix 0 (by omega), bS, refMul_ok hp d2 (by omega), bS, eu2, bS, hX.mat.some hj, bS, ix 0 (by omega), bS, refMul_ok hp d3 (by omega), bS, eu3, bS, refMul_ok hp d2 (by omega), bS, eu4, bS, ap1 (by omega) (by omega), bS]), bS, map_tab]
    rw [e3', bS]
    simp only
    rw [rgS_tab (fun j => (((v3.getD j []).getD 0 0 : Nat) : Int) == (0 : Int)) (fun j l hj hl => by
      have := (vv3 j hj).1
      replace this : (v3.getD j []).length = 1 := this
      unfold privityref25_Verify_L2
      simp only
      rw [ix [] (by omega), bS, ix 0 (by omega), bS, ap1 (by omega) (by omega), bS]), bS]
  · have h1 := wb1 j hj; have h2 := hb j hj; have h3 := wb2 j hj; have h5 := wb3 j hj
    replace h3 : (w2.getD j []).length ≤ (w1.getD j []).length + n := h3
    replace h5 : (w3.getD j []).length ≤ (w2.getD j []).length + n := h5
    omega
theorem sameOut_refl (a : List Bool) : privityref22_SameOut a a = some true := by
  have hb : ∀ b : Bool, (b != b) = false := fun b => by cases b <;> rfl
  unfold privityref22_SameOut
  rw [qF rfl, cF, rgO_go' (fun j _ hj => by
    unfold privityref22_SameOut_L0
    rw [ix false (show j < a.length by omega), bS, bS, hb, cF]), bS, oG]
theorem same05_refl (a : List Nat) : privityref05_Same a a = some true := by
  unfold privityref05_Same
  rw [qF rfl, cF, rgO_go' (fun j _ hj => by
    unfold privityref05_Same_L0
    rw [ix 0 (show j < a.length by omega), bS, bS, qF rfl, cF]), bS, oG]
theorem sameEvent_refl (a : T_api_Event) : privityref15_SameEvent a a = some true := by
  unfold privityref15_SameEvent
  rw [eT rfl, cT, eT rfl, cT, same05_refl, bS]
theorem same15_refl {a : List T_api_Event} (ha : a.length ≤ 1000) : privityref15_Same a a = some true := by
  unfold privityref15_Same privityref15_FirstDifference
  obtain ⟨r, e, hr⟩ := lpO_big (step := fun (st : Int) => privityref15_FirstDifference_L0 a a st) (fun st => ∃ k : Nat, st = k ∧ k ≤ a.length) (fun r => r = .inr ()) (fun st => a.length - st.toNat) (fun st ⟨k, h1, h2⟩ => by
    subst h1
    show ∃ q, privityref15_FirstDifference_L0 a a ((k : Nat) : Int) = some q ∧ _
    unfold privityref15_FirstDifference_L0
    by_cases c : k < a.length
    · rw [dT (by omega), cT, bS, cT, idx_getD default (by omega) (by omega), bS, bS, sameEvent_refl, bS, nT, cF, addI_some (by omega) (by omega), bS]
      exact ⟨_, rfl, ⟨k + 1, by show ((k : Nat) : Int) + 1 = _; omega, by omega⟩, by show a.length - ((k : Int) + 1).toNat < a.length - ((k : Nat) : Int).toNat; omega⟩
    · rw [dF (by omega), cF, bS, cF]
      exact ⟨_, rfl, rfl⟩) (s := ((0 : Nat) : Int)) ⟨0, rfl, by omega⟩ (by show a.length - _ < _; omega)
  subst hr
  rw [e, bS, sbR, eT rfl, cT, bS]; rfl
theorem law_VfyRef (q : T_privitylaw25_Ask) (hK : ∀ x ∈ q.W.Deviations, x.K < 18446744073709551616) : privitylaw25_TriplestoreVerifyMatchesReference q = some true := by
  unfold privitylaw25_TriplestoreVerifyMatchesReference
  obtain ⟨b, e, hb⟩ := fair25_ok hK
  rw [aw25, bS, nT, cF, e, bS]
  cases b with
  | false => rw [nF, cT]
  | true =>
    obtain ⟨n, t, ⟨v, hvs⟩, h7⟩ := hb rfl
    have s := v.toSc
    have hp := s.sup
    haveI : NeZero q.W.S.P := hp.ne
    haveI : NeZero (netOf q.W n).zw.S.P := hp.ne
    have h13 := s.n13
    have h4 := s.n4
    have a0 := h7 0 (by omega)
    have a1 := h7 1 (by omega)
    have a2 := h7 2 (by omega)
    have b0 := h7 3 (by omega)
    have b1 := h7 4 (by omega)
    have b2 := h7 5 (by omega)
    have r0 := h7 6 (by omega)
    change q.A.e0.length = _ ∧ Lt _ q.A.e0 at a0
    change q.A.e1.length = _ ∧ Lt _ q.A.e1 at a1
    change q.A.e2.length = _ ∧ Lt _ q.A.e2 at a2
    change q.B.e0.length = _ ∧ Lt _ q.B.e0 at b0
    change q.B.e1.length = _ ∧ Lt _ q.B.e1 at b1
    change q.B.e2.length = _ ∧ Lt _ q.B.e2 at b2
    change q.R.length = _ ∧ Lt _ q.R at r0
    obtain ⟨A, B, C, eA, sA, sB, sC⟩ := of_ok v.par a0 a1 a2
    obtain ⟨X, Y, Z, eX, sX, sY, sZ⟩ := of_ok v.par b0 b1 b2
    obtain ⟨R, eR, sR'⟩ := row25_ok v.par r0.2 r0.1
    obtain ⟨zt, em⟩ := refNew_full v hvs
    obtain ⟨out, views, ev, ev', o1, o2, o3⟩ := verify_ok2 (net := netOf q.W n) (mn := ⟨q.W, 0, List.replicate n [], zt⟩) rfl rfl rfl s sA sB sC sX sY sZ sR' netOf_views.1 (fun j hj => by rw [netOf_views.2 j hj]; simp) ⟨by show (0 : Int) ≤ 0; omega, by show (0 : Int) ≤ 900; omega⟩
    have hm : max 1 (q.W.S.N + 1).toNat = n + 1 := by rw [s.N]; omega
    have en : network_New q.W = some (.inr (netOf q.W n)) := new_ok v
    rw [nT, cF, en, bS, sR, em, bS, sR, eA, bS, eX, bS, eR, bS, ev, bS, ev', bS]
    simp only
    rw [sameOut_refl, bS, nT, cF]
    unfold network_Net_Rounds
    rw [bS, show ((netOf q.W n).zround + 1 + 1 + 1 != (3 : Int)) = false from rfl, bS, cF, hm, ckN_some (by omega), bS, Nat.add_sub_cancel, rgO_go' (fun j1 hj1 hj2 => by
      obtain ⟨j, rfl⟩ : ∃ j, j1 = j + 1 := ⟨j1 - 1, by omega⟩
      have hj : j < n := by omega
      unfold privitylaw25_TriplestoreVerifyMatchesReference_L0
      simp only
      rw [refView_eq (net := ⟨(netOf q.W n).zw, (netOf q.W n).zround + 1 + 1 + 1, views, (netOf q.W n).ztapes⟩) (m := ⟨q.W, (netOf q.W n).zround + 1 + 1 + 1, views, zt⟩) rfl, view_ok (net := ⟨(netOf q.W n).zw, (netOf q.W n).zround + 1 + 1 + 1, views, (netOf q.W n).ztapes⟩) (by show j < views.length; omega) (by show views.length ≤ 1000; omega) (by have := o3 j hj; show (views.getD j []).length ≤ 1000; omega), bS, bS, same15_refl (by have := o3 j hj; show (views.getD j []).length ≤ 1000; omega), bS, nT, cF]), bS, oG]
end Pu
