/- Plain laws of chapter 20: opening is robust. -/
import Derived.Test.YtclhpomlfadohaaDoorPb9
set_option linter.unusedVariables false
namespace Pu
open Gw Gl Sp Lean.Grind
theorem getD_mem {α : Type} {l : List α} {k : Nat} {d : α} (h : k < l.length) : l.getD k d ∈ l := by
  rw [List.getD_eq_getElem?_getD, List.getElem?_eq_getElem h]; exact List.getElem_mem h
theorem aw20 : privitylaw20_awake = some true := by decide +kernel
def netOf (w : T_api_Scenario) (n : Nat) : T_network_Net := ⟨w, 0, List.replicate n [], List.replicate n ()⟩
theorem nets20_ok {w : T_api_Scenario} {n t : Nat} (v : Va w n t) (hv : privityref12_ValidScenario w = some true) : ∃ m, privitylaw20_nets w = some (.inr (.inr (.inr (netOf w n, m)))) := by
  obtain ⟨m, e⟩ := refNew_ok v hv
  unfold privitylaw20_nets
  rw [new_ok v, bS, sR, e, bS, sR]
  exact ⟨m, rfl⟩
theorem small_ok {z : T_privitylaw20_Poly} (hK : ∀ x ∈ z.W.Deviations, x.K < 18446744073709551616) : ∃ b, privitylaw20_small z = some b ∧ (b = true → (∃ n t, Va z.W n t ∧ privityref12_ValidScenario z.W = some true) ∧ z.F.length ≤ 5 ∧ z.Other.length ≤ 20) := by
  unfold privitylaw20_small
  obtain ⟨b, e, hb⟩ := fair_ok (w := z.W) (lies := ((40 : Nat) : Int)) (words := ((20 : Nat) : Int)) hK (by omega) (by omega)
  rw [e, bS]
  cases b with
  | false => rw [cF]; exact ⟨_, rfl, fun h => by cases h⟩
  | true =>
    rw [cT]
    by_cases g : ((z.F.length : Nat) : Int) ≤ 5
    · rw [dT g, cT]
      refine ⟨_, rfl, fun h => ⟨hb rfl, by omega, ?_⟩⟩
      have := _root_.of_decide_eq_true h
      omega
    · rw [dF g, cF]; exact ⟨_, rfl, fun h => by cases h⟩
theorem shared_ok {z : T_privitylaw20_Poly} {n t : Nat} [NeZero z.W.S.P] (s : Sc z.W n t) (hF : z.F.length ≤ 5) (hO : z.Other.length ≤ 20) :
    ∃ sh, privitylaw20_shared z = some sh ∧ sh.length = n ∧ (∀ i, i < n → Lt z.W.S.P (sh.getD i []) ∧ (sh.getD i []).length = z.F.length) ∧
      ∀ i, i < n → (((i : Nat) : Int) + 1) ∉ z.W.Corrupt → ∀ k, k < z.F.length → o z.W.S.P ((sh.getD i []).getD k 0) = evl (P z.W.S.P (cutW z.W.S.P (z.F.getD k []) (t + 1))) (o z.W.S.P (i + 1)) := by
  have hp := s.sup
  have hlt := hp.lt
  have h13 := s.n13
  have h3 := s.t3
  have hN := s.N
  unfold privitylaw20_shared
  have hm : max 1 (z.W.S.N + 1).toNat = n + 1 := by rw [hN]; omega
  rw [hm, ckN_some (by omega), bS, Nat.add_sub_cancel]
  obtain ⟨sh, e, h1, h2, h4⟩ := rgS_inv (body := fun k1 (st : (List (List Nat))) => privitylaw20_shared_L0 z k1 st) (rem := n) (k := 1) (s := ([] : List (List Nat)))
    (fun j l => l.length + 1 = j ∧ (∀ i, i + 1 < j → Lt z.W.S.P (l.getD i []) ∧ (l.getD i []).length = z.F.length) ∧
      ∀ i, i + 1 < j → (((i : Nat) : Int) + 1) ∉ z.W.Corrupt → ∀ k, k < z.F.length → o z.W.S.P ((l.getD i []).getD k 0) = evl (P z.W.S.P (cutW z.W.S.P (z.F.getD k []) (t + 1))) (o z.W.S.P (i + 1)))
    ⟨rfl, fun i hi => by omega, fun i hi => by omega⟩ (fun j l hj1 hj ⟨h1, h2, h4⟩ => by
      unfold privitylaw20_shared_L0
      rw [Nat.sub_zero]
      obtain ⟨r, er, r1, r2, r3⟩ := rgS_inv (body := fun k2 (st : (List Nat)) => privitylaw20_shared_L1 z j k2 st) (rem := z.F.length) (k := 0) (s := ([] : List Nat))
        (fun k r => r.length = k ∧ Lt z.W.S.P r ∧ (((j : Nat) : Int) ∉ z.W.Corrupt → ∀ q, q < k → o z.W.S.P (r.getD q 0) = evl (P z.W.S.P (cutW z.W.S.P (z.F.getD q []) (t + 1))) (o z.W.S.P j))) ⟨rfl, fun i hi => by simp at hi, fun _ q hq => by omega⟩ (fun k r _ hk ⟨r1, r2, r3⟩ => by
          have hkF : k < z.F.length := by omega
          have hu : toU ((j : Nat) : Int) = j := by unfold toU; omega
          have et : z.W.S.T + 1 = ((t + 1 : Nat) : Int) := by rw [s.T]; omega
          obtain ⟨y, ey, y1, y2⟩ := refEval_ok hp (f := cutW z.W.S.P (z.F.getD k []) (t + 1)) (x := j) (cutW_lt hp.pos) (by omega)
          unfold privitylaw20_shared_L1
          rw [ix [] hkF, bS, addI_some (by rw [s.T]; omega) (by rw [s.T]; omega), bS, et, words_ok hp.pos (by omega), bS, bS, hu, ey, bS, honest_ok]
          simp only [bS]
          by_cases hc : ((j : Nat) : Int) ∉ z.W.Corrupt
          · rw [dT hc, nT, cF, bS, cF, appO_some (by rw [r1]; simp; omega) (by rw [r1]; simp; omega), bS]
            refine ⟨_, rfl, by simp [r1], fun i hi => getD_app_lt (n := k) (fun i hi => r2 i (by omega)) r1 y1 i (by simp at hi; omega), fun _ q hq => ?_⟩
            by_cases g : q < k
            · rw [getD_app_l (by omega)]; exact r3 hc q g
            · have : q = k := by omega
              subst this
              rw [getD_app_e r1.symm]; exact y2
          · rw [dF hc, nF, cT]
            by_cases g0 : 0 < z.Other.length
            · have hx : ((j : Int) + (k : Int)).tmod (z.Other.length : Int) = (((j + k) % z.Other.length : Nat) : Int) := by
                rw [← Int.natCast_add, Int.tmod_eq_emod_of_nonneg (by omega)]; rfl
              have hr : remI ((j : Int) + (k : Int)) ((z.Other.length : Nat) : Int) = some (((j + k) % z.Other.length : Nat) : Int) := by
                unfold remI; rw [if_neg (by omega), hx]
              have hlo := Nat.mod_lt (j + k) g0
              have rp : ∀ y, remU y z.W.S.P = some (y % z.W.S.P) := fun y => by unfold remU; rw [if_neg (by omega)]
              rw [dT (by omega), bS, cT, addI_some (by omega) (by omega), bS, hr, bS, idx_getD 0 (by omega) (by omega), bS, rp, bS, appO_some (by rw [r1]; simp; omega) (by rw [r1]; simp; omega), bS]
              exact ⟨_, rfl, by simp [r1], fun i hi => getD_app_lt (n := k) (fun i hi => r2 i (by omega)) r1 (Nat.mod_lt _ hp.pos) i (by simp at hi; omega), fun h => absurd h hc⟩
            · rw [dF (by omega), bS, cF, appO_some (by rw [r1]; simp; omega) (by rw [r1]; simp; omega), bS]
              exact ⟨_, rfl, by simp [r1], fun i hi => getD_app_lt (n := k) (fun i hi => r2 i (by omega)) r1 y1 i (by simp at hi; omega), fun h => absurd h hc⟩)
      rw [Nat.zero_add] at r1 r3
      rw [er, bS, appO_some (by simp; omega) (by simp; omega), bS]
      refine ⟨_, rfl, by simp; omega, fun i hi => ?_, fun i hi hc => ?_⟩
      · by_cases g : i + 1 < j
        · rw [getD_app_l (by omega)]; exact h2 i g
        · rw [getD_app_e (by omega)]; exact ⟨r2, r1⟩
      · by_cases g : i + 1 < j
        · rw [getD_app_l (by omega)]; exact h4 i g hc
        · rw [getD_app_e (by omega)]
          have : j = i + 1 := by omega
          subst this
          exact r3 (by simpa using hc))
  rw [e, bS]
  exact ⟨_, rfl, by omega, fun i hi => h2 i (by omega), fun i hi => h4 i (by omega)⟩
theorem netOf_views {w : T_api_Scenario} {n : Nat} : (netOf w n).zviews.length = n ∧ ∀ j, j < n → ((netOf w n).zviews.getD j []) = [] := ⟨by simp [netOf], fun j hj => by simp [netOf, List.getD_eq_getElem?_getD, hj]⟩
/-- an honest party never lies -/
theorem liar_corrupt {p : Nat} [NeZero p] {f0 : Nat → List Nat} {all : List (List (List Nat))} {sh : List (List Nat)} {n m j i : Nat} {C : List Int} (hi : i ∈ liars p f0 all n m j) (hj : j < n)
    (ha : ∀ i, i < n → (((i : Nat) : Int) + 1) ∉ C → ∀ j, j < n → (all.getD i []).getD j [] = sh.getD i []) (hs : ∀ i, i < n → (((i : Nat) : Int) + 1) ∉ C → ∀ k, k < m → o p ((sh.getD i []).getD k 0) = evl (P p (f0 k)) (o p (i + 1))) : (((i : Nat) : Int) + 1) ∈ C := by
  apply Classical.byContradiction
  intro hc
  have h := List.mem_filter.1 hi
  have hin : i < n := by simpa using h.1
  obtain ⟨k, hk, hd⟩ := List.any_eq_true.1 h.2
  have hkm : k < m := by simpa using hk
  simp only [decide_eq_true_eq] at hd
  rw [ha i hin hc j hj, hs i hin hc k hkm] at hd
  exact hd rfl
theorem law_Robust (z : T_privitylaw20_Poly) (hK : ∀ x ∈ z.W.Deviations, x.K < 18446744073709551616) : privitylaw20_ReconstructRobust z = some true := by
  unfold privitylaw20_ReconstructRobust
  obtain ⟨b, e, hb⟩ := small_ok hK
  rw [e, bS]
  cases b with
  | false => rw [nF, cT, aw20, bS]
  | true =>
    obtain ⟨⟨n, t, v, hv⟩, hF, hO⟩ := hb rfl
    have s := v.toSc
    have hp := s.sup
    haveI : NeZero z.W.S.P := hp.ne
    haveI : NeZero (netOf z.W n).zw.S.P := hp.ne
    have h13 := s.n13
    have h3 := s.t3
    obtain ⟨m, em⟩ := nets20_ok v hv
    obtain ⟨sh, es, s1, s2, s3⟩ := shared_ok s hF hO
    obtain ⟨all, vals, caught, r, views, ev, q1, q2, q3, q4, q5, q6, q7, q8, q9⟩ := values_ok (net := netOf z.W n) (m := z.F.length) s s1 s2 (by omega) netOf_views.1 (fun j hj => by rw [netOf_views.2 j hj]; simp) ⟨by show (0 : Int) ≤ 0; omega, by show (0 : Int) ≤ 1000; omega⟩ (fun k => cutW z.W.S.P (z.F.getD k []) (t + 1)) (fun k hk => by rw [cutW_len]; omega) s3
    have hm : max 1 (z.W.S.N + 1).toNat = n + 1 := by rw [s.N]; omega
    rw [nT, cF, em, bS, sR, sR, sR, es, bS, ev, bS]
    simp only
    rw [q4, q5, qF s.N.symm, cF, bS, cF, hm, ckN_some (by omega), bS, Nat.add_sub_cancel]
    obtain ⟨o1, eo, ho⟩ := rgO_inv (body := fun k1 (st : Unit) => privitylaw20_ReconstructRobust_L0 z (vals, caught, r, views) k1) (fun _ _ => True) (fun _ => False) (rem := n) (k := 1) (s := ()) trivial (fun j1 _ hj1 hj2 _ => by
      obtain ⟨j, rfl⟩ : ∃ j, j1 = j + 1 := ⟨j1 - 1, by omega⟩
      have hj : j < n := by omega
      have ej : ((j + 1 : Nat) : Int) - 1 = (j : Int) := by omega
      unfold privitylaw20_ReconstructRobust_L0
      rw [honest_ok, bS]
      by_cases hc : ((j + 1 : Nat) : Int) ∉ z.W.Corrupt
      · obtain ⟨c1, c2⟩ := q7 j hj
        rw [dT hc, nT, cF, subI_some (by omega) (by omega), bS, ej]
        simp only
        rw [idx_getD [] (by omega) (by omega), bS, Int.toNat_natCast, c1, qF rfl, cF, Nat.sub_zero]
        obtain ⟨o2, eo2, ho2⟩ := rgO_inv (body := fun k2 (st : Unit) => privitylaw20_ReconstructRobust_L1 z (vals.getD j []) k2) (fun _ _ => True) (fun _ => False) (rem := z.F.length) (k := 0) (s := ()) trivial (fun k _ _ hk _ => by
          have hkF : k < z.F.length := by omega
          have et : z.W.S.T + 1 = ((t + 1 : Nat) : Int) := by rw [s.T]; omega
          obtain ⟨d1, d2⟩ := c2 k hkF
          unfold privitylaw20_ReconstructRobust_L1
          have hcl := cutW_len (p := z.W.S.P) (m := t + 1) (l := z.F.getD k [])
          rw [ix 0 (by omega), bS, ix [] hkF, bS, addI_some (by rw [s.T]; omega) (by rw [s.T]; omega), bS, et, words_ok hp.pos (by omega), bS, refCoef_ok (by omega), bS, qF (by rw [o_inj d1 ((cutW_lt hp.pos).get hp.pos 0) d2]), cF]
          exact ⟨_, rfl, trivial⟩)
        rw [eo2, bS]
        cases o2 with
        | fin _ => exact ho2.elim
        | go _ =>
          rw [oG]
          obtain ⟨r2, er2, hr2⟩ := lpO_big (step := fun (st : Int) => privitylaw20_ReconstructRobust_L2 z (vals, caught, r, views) ((j : Nat) : Int) st) (fun st => ∃ k : Nat, st = k ∧ k ≤ (caught.getD j []).length) (fun (o : Bool ⊕ Unit) => o = .inr ()) (fun st => (caught.getD j []).length - st.toNat) (fun st ⟨k, hk, hkl⟩ => by
            subst hk
            unfold privitylaw20_ReconstructRobust_L2
            simp only
            have hcl : (caught.getD j []).length ≤ n := by
              rw [q8 j hj, List.length_map]; exact Nat.le_trans (List.length_filter_le ..) (by simp)
            rw [idx_getD [] (by omega) (by omega), bS, Int.toNat_natCast]
            by_cases g : k < (caught.getD j []).length
            · have hmem : (caught.getD j []).getD k 0 ∈ z.W.Corrupt := by
                have : (caught.getD j []).getD k 0 ∈ caught.getD j [] := getD_mem g
                rw [q8 j hj] at this ⊢
                obtain ⟨i, hi, hie⟩ := List.mem_map.1 this
                rw [← hie]
                exact liar_corrupt hi hj q2 s3
              rw [dT (by omega), cT, idx_getD 0 (by omega) (by omega), bS, Int.toNat_natCast, honest_ok, bS, dF (fun h => h hmem), cF, addI_some (by omega) (by omega), bS]
              exact ⟨_, rfl, ⟨k + 1, by omega, by omega⟩, by show _ - ((k : Int) + 1).toNat < _ - ((k : Int)).toNat; omega⟩
            · rw [dF (by omega), cF]
              exact ⟨_, rfl, rfl⟩) (s := ((0 : Nat) : Int)) ⟨0, rfl, by omega⟩ (by
                have hcl : (caught.getD j []).length ≤ n := by
                  rw [q8 j hj, List.length_map]; exact Nat.le_trans (List.length_filter_le ..) (by simp)
                omega)
          rw [er2, bS, hr2, sbR]
          exact ⟨_, rfl, trivial⟩
      · rw [dF hc, nF, cT]
        exact ⟨_, rfl, trivial⟩)
    rw [eo, bS]
    cases o1 with
    | fin _ => exact ho.elim
    | go _ => rw [oG, aw20, bS]
end Pu
