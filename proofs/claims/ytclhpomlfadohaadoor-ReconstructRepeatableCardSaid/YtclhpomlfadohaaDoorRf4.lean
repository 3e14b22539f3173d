/- Plain laws of chapter 20: opening can be repeated. -/
import Derived.Test.YtclhpomlfadohaaDoorRb9
set_option linter.unusedVariables false
namespace Pu
open Gw Gl Sp Lean.Grind
theorem getD_mem {α : Type} {l : List α} {k : Nat} {d : α} (h : k < l.length) : l.getD k d ∈ l := by
  rw [List.getD_eq_getElem?_getD, List.getElem?_eq_getElem h]; exact List.getElem_mem h
theorem aw20 : privitylaw20_awake = some true := by decide +kernel
def netOf (w : T_api_Scenario) (n : Nat) : T_network_Net := ⟨w, 0, List.replicate n [], List.replicate n ()⟩
theorem nets20_ok {w : T_api_Scenario} {n t : Nat} (v : Va w n t) (hv : privityref12_ValidScenario w = some true) : ∃ m, privitylaw20_nets w = some (.inr (.inr (.inr (netOf w n, m)))) := by
  obtain ⟨m, e⟩ := refNew_ok v hv
  unfold privitylaw20_nets
  rw [new_ok v, bS, sR, e, bS, sR]
  exact ⟨m, rfl⟩
theorem small_ok {z : T_privitylaw20_Poly} (hK : ∀ x ∈ z.W.Deviations, x.K < 18446744073709551616) : ∃ b, privitylaw20_small z = some b ∧ (b = true → (∃ n t, Va z.W n t ∧ privityref12_ValidScenario z.W = some true) ∧ z.F.length ≤ 5 ∧ z.Other.length ≤ 20) := by
  unfold privitylaw20_small
  obtain ⟨b, e, hb⟩ := fair_ok (w := z.W) (lies := ((40 : Nat) : Int)) (words := ((20 : Nat) : Int)) hK (by omega) (by omega)
  rw [e, bS]
  cases b with
  | false => rw [cF]; exact ⟨_, rfl, fun h => by cases h⟩
  | true =>
    rw [cT]
    by_cases g : ((z.F.length : Nat) : Int) ≤ 5
    · rw [dT g, cT]
      refine ⟨_, rfl, fun h => ⟨hb rfl, by omega, ?_⟩⟩
      have := _root_.of_decide_eq_true h
      omega
    · rw [dF g, cF]; exact ⟨_, rfl, fun h => by cases h⟩
theorem shared_ok {z : T_privitylaw20_Poly} {n t : Nat} [NeZero z.W.S.P] (s : Sc z.W n t) (hF : z.F.length ≤ 5) (hO : z.Other.length ≤ 20) :
    ∃ sh, privitylaw20_shared z = some sh ∧ sh.length = n ∧ (∀ i, i < n → Lt z.W.S.P (sh.getD i []) ∧ (sh.getD i []).length = z.F.length) ∧
      ∀ i, i < n → (((i : Nat) : Int) + 1) ∉ z.W.Corrupt → ∀ k, k < z.F.length → o z.W.S.P ((sh.getD i []).getD k 0) = evl (P z.W.S.P (cutW z.W.S.P (z.F.getD k []) (t + 1))) (o z.W.S.P (i + 1)) := by
  have hp := s.sup
  have hlt := hp.lt
  have h13 := s.n13
  have h3 := s.t3
  have hN := s.N
  unfold privitylaw20_shared
  have hm : max 1 (z.W.S.N + 1).toNat = n + 1 := by rw [hN]; omega
  rw [hm, ckN_some (by omega), bS, Nat.add_sub_cancel]
  obtain ⟨sh, e, h1, h2, h4⟩ := rgS_inv (body := fun k1 (st : (List (List Nat))) => privitylaw20_shared_L0 z k1 st) (rem := n) (k := 1) (s := ([] : List (List Nat)))
    (fun j l => l.length + 1 = j ∧ (∀ i, i + 1 < j → Lt z.W.S.P (l.getD i []) ∧ (l.getD i []).length = z.F.length) ∧
      ∀ i, i + 1 < j → (((i : Nat) : Int) + 1) ∉ z.W.Corrupt → ∀ k, k < z.F.length → o z.W.S.P ((l.getD i []).getD k 0) = evl (P z.W.S.P (cutW z.W.S.P (z.F.getD k []) (t + 1))) (o z.W.S.P (i + 1)))
    ⟨rfl, fun i hi => by omega, fun i hi => by omega⟩ (fun j l hj1 hj ⟨h1, h2, h4⟩ => by
      unfold privitylaw20_shared_L0
      rw [Nat.sub_zero]
      obtain ⟨r, er, r1, r2, r3⟩ := rgS_inv (body := fun k2 (st : (List Nat)) => privitylaw20_shared_L1 z j k2 st) (rem := z.F.length) (k := 0) (s := ([] : List Nat))
        (fun k r => r.length = k ∧ Lt z.W.S.P r ∧ (((j : Nat) : Int) ∉ z.W.Corrupt → ∀ q, q < k → o z.W.S.P (r.getD q 0) = evl (P z.W.S.P (cutW z.W.S.P (z.F.getD q []) (t + 1))) (o z.W.S.P j))) ⟨rfl, fun i hi => by simp at hi, fun _ q hq => by omega⟩ (fun k r _ hk ⟨r1, r2, r3⟩ => by
          have hkF : k < z.F.length := by omega
          have hu : toU ((j : Nat) : Int) = j := by unfold toU; omega
          have et : z.W.S.T + 1 = ((t + 1 : Nat) : Int) := by rw [s.T]; omega
          obtain ⟨y, ey, y1, y2⟩ := refEval_ok hp (f := cutW z.W.S.P (z.F.getD k []) (t + 1)) (x := j) (cutW_lt hp.pos) (by omega)
          unfold privitylaw20_shared_L1
          rw [ix [] hkF, bS, addI_some (by rw [s.T]; omega) (by rw [s.T]; omega), bS, et, words_ok hp.pos (by omega), bS, bS, hu, ey, bS, honest_ok]
          simp only [bS]
          by_cases hc : ((j : Nat) : Int) ∉ z.W.Corrupt
          · rw [dT hc, nT, cF, bS, cF, appO_some (by rw [r1]; simp; omega) (by rw [r1]; simp; omega), bS]
            refine ⟨_, rfl, by simp [r1], fun i hi => getD_app_lt (n := k) (fun i hi => r2 i (by omega)) r1 y1 i (by simp at hi; omega), fun _ q hq => ?_⟩
            by_cases g : q < k
            · rw [getD_app_l (by omega)]; exact r3 hc q g
            · have : q = k := by omega
              subst this
              rw [getD_app_e r1.symm]; exact y2
          · rw [dF hc, nF, cT]
            by_cases g0 : 0 < z.Other.length
            · have hx : ((j : Int) + (k : Int)).tmod (z.Other.length : Int) = (((j + k) % z.Other.length : Nat) : Int) := by
                rw [← Int.natCast_add, Int.tmod_eq_emod_of_nonneg (by omega)]; rfl
              have hr : remI ((j : Int) + (k : Int)) ((z.Other.length : Nat) : Int) = some (((j + k) % z.Other.length : Nat) : Int) := by
                unfold remI; rw [if_neg (by omega), hx]
              have hlo := Nat.mod_lt (j + k) g0
              have rp : ∀ y, remU y z.W.S.P = some (y % z.W.S.P) := fun y => by unfold remU; rw [if_neg (by omega)]
              rw [dT (by omega), bS, cT, addI_some (by omega) (by omega), bS, hr, bS, idx_getD 0 (by omega) (by omega), bS, rp, bS, appO_some (by rw [r1]; simp; omega) (by rw [r1]; simp; omega), bS]
              exact ⟨_, rfl, by simp [r1], fun i hi => getD_app_lt (n := k) (fun i hi => r2 i (by omega)) r1 (Nat.mod_lt _ hp.pos) i (by simp at hi; omega), fun h => absurd h hc⟩
            · rw [dF (by omega), bS, cF, appO_some (by rw [r1]; simp; omega) (by rw [r1]; simp; omega), bS]
              exact ⟨_, rfl, by simp [r1], fun i hi => getD_app_lt (n := k) (fun i hi => r2 i (by omega)) r1 y1 i (by simp at hi; omega), fun h => absurd h hc⟩)
      rw [Nat.zero_add] at r1 r3
      rw [er, bS, appO_some (by simp; omega) (by simp; omega), bS]
      refine ⟨_, rfl, by simp; omega, fun i hi => ?_, fun i hi hc => ?_⟩
      · by_cases g : i + 1 < j
        · rw [getD_app_l (by omega)]; exact h2 i g
        · rw [getD_app_e (by omega)]; exact ⟨r2, r1⟩
      · by_cases g : i + 1 < j
        · rw [getD_app_l (by omega)]; exact h4 i g hc
        · rw [getD_app_e (by omega)]
          have : j = i + 1 := by omega
          subst this
          exact r3 (by simpa using hc))
  rw [e, bS]
  exact ⟨_, rfl, by omega, fun i hi => h2 i (by omega), fun i hi => h4 i (by omega)⟩
theorem netOf_views {w : T_api_Scenario} {n : Nat} : (netOf w n).zviews.length = n ∧ ∀ j, j < n → ((netOf w n).zviews.getD j []) = [] := ⟨by simp [netOf], fun j hj => by simp [netOf, List.getD_eq_getElem?_getD, hj]⟩
theorem rgO_go' {R : Type} {body : Nat → Unit → Option (Out Unit R)} : ∀ {n k : Nat}, (∀ j, k ≤ j → j < k + n → body j () = some (.go ())) → rgO body n k () = some (.go ())
  | 0, _, _ => rfl
  | n + 1, k, h => by
    simp only [rgO, h k (Nat.le_refl k) (by omega)]
    exact rgO_go' fun j h1 h2 => h j (by omega) (by omega)
theorem words_refl (a : List Nat) : privityref14_Words a a = some true := by
  unfold privityref14_Words
  rw [qF rfl, cF, rgO_go' (fun j _ hj => by
    unfold privityref14_Words_L0
    rw [ix 0 (show j < a.length by omega), bS, bS, qF rfl, cF]), bS, oG]
theorem list_ext {a b : List Nat} {n : Nat} (h1 : a.length = n) (h2 : b.length = n) (h : ∀ i, i < n → a.getD i 0 = b.getD i 0) : a = b := by
  apply List.ext_getElem?
  intro i
  by_cases g : i < n
  · rw [ix 0 (by omega), ix 0 (by omega), h i g]
  · rw [List.getElem?_eq_none (by omega), List.getElem?_eq_none (by omega)]
theorem law_Repeatable (z : T_privitylaw20_Poly) (hK : ∀ x ∈ z.W.Deviations, x.K < 18446744073709551616) : privitylaw20_ReconstructRepeatable z = some true := by
  unfold privitylaw20_ReconstructRepeatable
  obtain ⟨b, e, hb⟩ := small_ok hK
  rw [e, bS]
  cases b with
  | false => rw [nF, cT, aw20, bS]
  | true =>
    obtain ⟨⟨n, t, v, hv⟩, hF, hO⟩ := hb rfl
    have s := v.toSc
    have hp := s.sup
    haveI : NeZero z.W.S.P := hp.ne
    haveI : NeZero (netOf z.W n).zw.S.P := hp.ne
    have h13 := s.n13
    have h3 := s.t3
    obtain ⟨m, em⟩ := nets20_ok v hv
    obtain ⟨sh, es, s1, s2, s3⟩ := shared_ok s hF hO
    obtain ⟨all, vals, caught, r, views, ev, q1, q2, q3, q4, q5, q6, q7, q8, q9⟩ := values_ok (net := netOf z.W n) (m := z.F.length) s s1 s2 (by omega) netOf_views.1 (fun j hj => by rw [netOf_views.2 j hj]; simp) ⟨by show (0 : Int) ≤ 0; omega, by show (0 : Int) ≤ 1000; omega⟩ (fun k => cutW z.W.S.P (z.F.getD k []) (t + 1)) (fun k hk => by rw [cutW_len]; omega) s3
    have hr0 : r = 0 ∨ r = 0 + 1 := q3
    obtain ⟨all', vals', caught', r', views', ev', _, _, _, p4, _, _, p7, _, _⟩ := values_ok (net := ⟨z.W, r, views, (netOf z.W n).ztapes⟩) (m := z.F.length) s s1 s2 (by omega) q6 (fun j hj => by
      have := (q9 j hj).2
      rw [netOf_views.2 j hj, List.length_nil] at this
      show (views.getD j []).length ≤ 500
      omega) ⟨by show (0 : Int) ≤ r; omega, by show r ≤ 1000; omega⟩ (fun k => cutW z.W.S.P (z.F.getD k []) (t + 1)) (fun k hk => by rw [cutW_len]; omega) s3
    have hm : max 1 (z.W.S.N + 1).toNat = n + 1 := by rw [s.N]; omega
    rw [nT, cF, em, bS, sR, sR, sR, es, bS, ev, bS]
    simp only
    rw [show (netOf z.W n).zw = z.W from rfl, ev', bS]
    simp only
    rw [q4, p4, qF s.N.symm, cF, bS, cF, hm, ckN_some (by omega), bS, Nat.add_sub_cancel, rgO_go' (fun j1 hj1 hj2 => by
      obtain ⟨j, rfl⟩ : ∃ j, j1 = j + 1 := ⟨j1 - 1, by omega⟩
      have hj : j < n := by omega
      have ej : ((j + 1 : Nat) : Int) - 1 = (j : Int) := by omega
      unfold privitylaw20_ReconstructRepeatable_L0
      rw [honest_ok, bS]
      by_cases hc : ((j + 1 : Nat) : Int) ∉ z.W.Corrupt
      · have heq : vals.getD j [] = vals'.getD j [] := by
          obtain ⟨a1, a2⟩ := q7 j hj
          obtain ⟨b1, b2⟩ := p7 j hj
          refine list_ext a1 b1 fun k hk => ?_
          obtain ⟨a3, a4⟩ := a2 k hk
          obtain ⟨b3, b4⟩ := b2 k hk
          exact o_inj (p := z.W.S.P) a3 b3 (a4.trans b4.symm)
        rw [dT hc, cT, subI_some (by omega) (by omega), bS, ej]
        simp only
        rw [idx_getD [] (by omega) (by omega), bS, Int.toNat_natCast, idx_getD [] (by omega) (by omega), bS, Int.toNat_natCast, heq, words_refl, bS, nT, cF]
      · rw [dF hc, cF]), bS, oG, aw20, bS]
end Pu
