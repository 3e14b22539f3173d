/- Plain laws of chapter 20: who is detected. -/
import Derived.Test.YtclhpomlfadohaaDoorUb9
set_option linter.unusedVariables false
namespace Pu
open Gw Gl Sp Lean.Grind
theorem getD_mem {α : Type} {l : List α} {k : Nat} {d : α} (h : k < l.length) : l.getD k d ∈ l := by
  rw [List.getD_eq_getElem?_getD, List.getElem?_eq_getElem h]; exact List.getElem_mem h
theorem aw20 : privitylaw20_awake = some true := by decide +kernel
def netOf (w : T_api_Scenario) (n : Nat) : T_network_Net := ⟨w, 0, List.replicate n [], List.replicate n ()⟩
theorem nets20_ok {w : T_api_Scenario} {n t : Nat} (v : Va w n t) (hv : privityref12_ValidScenario w = some true) : ∃ m, privitylaw20_nets w = some (.inr (.inr (.inr (netOf w n, m)))) := by
  obtain ⟨m, e⟩ := refNew_ok v hv
  unfold privitylaw20_nets
  rw [new_ok v, bS, sR, e, bS, sR]
  exact ⟨m, rfl⟩
theorem small_ok {z : T_privitylaw20_Poly} (hK : ∀ x ∈ z.W.Deviations, x.K < 18446744073709551616) : ∃ b, privitylaw20_small z = some b ∧ (b = true → (∃ n t, Va z.W n t ∧ privityref12_ValidScenario z.W = some true) ∧ z.F.length ≤ 5 ∧ z.Other.length ≤ 20) := by
  unfold privitylaw20_small
  obtain ⟨b, e, hb⟩ := fair_ok (w := z.W) (lies := ((40 : Nat) : Int)) (words := ((20 : Nat) : Int)) hK (by omega) (by omega)
  rw [e, bS]
  cases b with
  | false => rw [cF]; exact ⟨_, rfl, fun h => by cases h⟩
  | true =>
    rw [cT]
    by_cases g : ((z.F.length : Nat) : Int) ≤ 5
    · rw [dT g, cT]
      refine ⟨_, rfl, fun h => ⟨hb rfl, by omega, ?_⟩⟩
      have := _root_.of_decide_eq_true h
      omega
    · rw [dF g, cF]; exact ⟨_, rfl, fun h => by cases h⟩
theorem shared_ok {z : T_privitylaw20_Poly} {n t : Nat} [NeZero z.W.S.P] (s : Sc z.W n t) (hF : z.F.length ≤ 5) (hO : z.Other.length ≤ 20) :
    ∃ sh, privitylaw20_shared z = some sh ∧ sh.length = n ∧ (∀ i, i < n → Lt z.W.S.P (sh.getD i []) ∧ (sh.getD i []).length = z.F.length) ∧
      ∀ i, i < n → (((i : Nat) : Int) + 1) ∉ z.W.Corrupt → ∀ k, k < z.F.length → o z.W.S.P ((sh.getD i []).getD k 0) = evl (P z.W.S.P (cutW z.W.S.P (z.F.getD k []) (t + 1))) (o z.W.S.P (i + 1)) := by
  have hp := s.sup
  have hlt := hp.lt
  have h13 := s.n13
  have h3 := s.t3
  have hN := s.N
  unfold privitylaw20_shared
  have hm : max 1 (z.W.S.N + 1).toNat = n + 1 := by rw [hN]; omega
  rw [hm, ckN_some (by omega), bS, Nat.add_sub_cancel]
  obtain ⟨sh, e, h1, h2, h4⟩ := rgS_inv (body := fun k1 (st : (List (List Nat))) => privitylaw20_shared_L0 z k1 st) (rem := n) (k := 1) (s := ([] : List (List Nat)))
    (fun j l => l.length + 1 = j ∧ (∀ i, i + 1 < j → Lt z.W.S.P (l.getD i []) ∧ (l.getD i []).length = z.F.length) ∧
      ∀ i, i + 1 < j → (((i : Nat) : Int) + 1) ∉ z.W.Corrupt → ∀ k, k < z.F.length → o z.W.S.P ((l.getD i []).getD k 0) = evl (P z.W.S.P (cutW z.W.S.P (z.F.getD k []) (t + 1))) (o z.W.S.P (i + 1)))
    ⟨rfl, fun i hi => by omega, fun i hi => by omega⟩ (fun j l hj1 hj ⟨h1, h2, h4⟩ => by
      unfold privitylaw20_shared_L0
      rw [Nat.sub_zero]
      obtain ⟨r, er, r1, r2, r3⟩ := rgS_inv (body := fun k2 (st : (List Nat)) => privitylaw20_shared_L1 z j k2 st) (rem := z.F.length) (k := 0) (s := ([] : List Nat))
        (fun k r => r.length = k ∧ Lt z.W.S.P r ∧ (((j : Nat) : Int) ∉ z.W.Corrupt → ∀ q, q < k → o z.W.S.P (r.getD q 0) = evl (P z.W.S.P (cutW z.W.S.P (z.F.getD q []) (t + 1))) (o z.W.S.P j))) ⟨rfl, fun i hi => by simp at hi, fun _ q hq => by omega⟩ (fun k r _ hk ⟨r1, r2, r3⟩ => by
          have hkF : k < z.F.length := by omega
          have hu : toU ((j : Nat) : Int) = j := by unfold toU; omega
          have et : z.W.S.T + 1 = ((t + 1 : Nat) : Int) := by rw [s.T]; omega
          obtain ⟨y, ey, y1, y2⟩ := refEval_ok hp (f := cutW z.W.S.P (z.F.getD k []) (t + 1)) (x := j) (cutW_lt hp.pos) (by omega)
          unfold privitylaw20_shared_L1
          rw [ix [] hkF, bS, addI_some (by rw [s.T]; omega) (by rw [s.T]; omega), bS, et, words_ok hp.pos (by omega), bS, bS, hu, ey, bS, honest_ok]
          simp only [bS]
          by_cases hc : ((j : Nat) : Int) ∉ z.W.Corrupt
          · rw [dT hc, nT, cF, bS, cF, appO_some (by rw [r1]; simp; omega) (by rw [r1]; simp; omega), bS]
            refine ⟨_, rfl, by simp [r1], fun i hi => getD_app_lt (n := k) (fun i hi => r2 i (by omega)) r1 y1 i (by simp at hi; omega), fun _ q hq => ?_⟩
            by_cases g : q < k
            · rw [getD_app_l (by omega)]; exact r3 hc q g
            · have : q = k := by omega
              subst this
              rw [getD_app_e r1.symm]; exact y2
          · rw [dF hc, nF, cT]
            by_cases g0 : 0 < z.Other.length
            · have hx : ((j : Int) + (k : Int)).tmod (z.Other.length : Int) = (((j + k) % z.Other.length : Nat) : Int) := by
                rw [← Int.natCast_add, Int.tmod_eq_emod_of_nonneg (by omega)]; rfl
              have hr : remI ((j : Int) + (k : Int)) ((z.Other.length : Nat) : Int) = some (((j + k) % z.Other.length : Nat) : Int) := by
                unfold remI; rw [if_neg (by omega), hx]
              have hlo := Nat.mod_lt (j + k) g0
              have rp : ∀ y, remU y z.W.S.P = some (y % z.W.S.P) := fun y => by unfold remU; rw [if_neg (by omega)]
              rw [dT (by omega), bS, cT, addI_some (by omega) (by omega), bS, hr, bS, idx_getD 0 (by omega) (by omega), bS, rp, bS, appO_some (by rw [r1]; simp; omega) (by rw [r1]; simp; omega), bS]
              exact ⟨_, rfl, by simp [r1], fun i hi => getD_app_lt (n := k) (fun i hi => r2 i (by omega)) r1 (Nat.mod_lt _ hp.pos) i (by simp at hi; omega), fun h => absurd h hc⟩
            · rw [dF (by omega), bS, cF, appO_some (by rw [r1]; simp; omega) (by rw [r1]; simp; omega), bS]
              exact ⟨_, rfl, by simp [r1], fun i hi => getD_app_lt (n := k) (fun i hi => r2 i (by omega)) r1 y1 i (by simp at hi; omega), fun h => absurd h hc⟩)
      rw [Nat.zero_add] at r1 r3
      rw [er, bS, appO_some (by simp; omega) (by simp; omega), bS]
      refine ⟨_, rfl, by simp; omega, fun i hi => ?_, fun i hi hc => ?_⟩
      · by_cases g : i + 1 < j
        · rw [getD_app_l (by omega)]; exact h2 i g
        · rw [getD_app_e (by omega)]; exact ⟨r2, r1⟩
      · by_cases g : i + 1 < j
        · rw [getD_app_l (by omega)]; exact h4 i g hc
        · rw [getD_app_e (by omega)]
          have : j = i + 1 := by omega
          subst this
          exact r3 (by simpa using hc))
  rw [e, bS]
  exact ⟨_, rfl, by omega, fun i hi => h2 i (by omega), fun i hi => h4 i (by omega)⟩
theorem netOf_views {w : T_api_Scenario} {n : Nat} : (netOf w n).zviews.length = n ∧ ∀ j, j < n → ((netOf w n).zviews.getD j []) = [] := ⟨by simp [netOf], fun j hj => by simp [netOf, List.getD_eq_getElem?_getD, hj]⟩
theorem rgO_go' {R : Type} {body : Nat → Unit → Option (Out Unit R)} : ∀ {n k : Nat}, (∀ j, k ≤ j → j < k + n → body j () = some (.go ())) → rgO body n k () = some (.go ())
  | 0, _, _ => rfl
  | n + 1, k, h => by
    simp only [rgO, h k (Nat.le_refl k) (by omega)]
    exact rgO_go' fun j h1 h2 => h j (by omega) (by omega)
theorem list_ext {a b : List Nat} {n : Nat} (h1 : a.length = n) (h2 : b.length = n) (h : ∀ i, i < n → a.getD i 0 = b.getD i 0) : a = b := by
  apply List.ext_getElem?
  intro i
  by_cases g : i < n
  · rw [ix 0 (by omega), ix 0 (by omega), h i g]
  · rw [List.getElem?_eq_none (by omega), List.getElem?_eq_none (by omega)]
theorem evs_mem {round : Int} {all : List (List (List Nat))} {j k : Nat} {x : T_api_Event} : x ∈ evs round all j k ↔ ∃ i, i < k ∧ i ≠ j ∧ 0 < ((all.getD i []).getD j []).length ∧ x = ⟨round, ((i : Nat) : Int) + 1, (all.getD i []).getD j []⟩ := by
  unfold evs
  simp only [List.mem_map, List.mem_filter, List.mem_range, decide_eq_true_eq]
  constructor
  · rintro ⟨i, ⟨h1, h2, h3⟩, rfl⟩; exact ⟨i, h1, h2, h3, rfl⟩
  · rintro ⟨i, h1, h2, h3, rfl⟩; exact ⟨i, ⟨h1, h2, h3⟩, rfl⟩
theorem view_ok {net : T_network_Net} {i : Nat} (hi : i < net.zviews.length) (hi2 : net.zviews.length ≤ 1000) (hb : (net.zviews.getD i []).length ≤ 1000) : network_Net_View net ((i + 1 : Nat) : Int) = some (net.zviews.getD i []) := by
  unfold network_Net_View
  have e : ((i + 1 : Nat) : Int) - 1 = (i : Int) := by omega
  rw [subI_some (by omega) (by omega), bS, e, idx_getD [] (by omega) (by omega), bS, Int.toNat_natCast, appO_some (by simp only [List.length_nil]; omega) (by simp only [List.length_nil]; omega), bS, List.nil_append]
theorem refResize_ok {l : List Nat} {m : Nat} (hm : m ≤ 1000) : ∃ r, privityref14_Resize l ((m : Nat) : Int) = some r ∧ r.length = m ∧ ∀ k, k < m → r.getD k 0 = l.getD k 0 := by
  unfold privityref14_Resize
  rw [mkO_some (by omega) (by omega) (by omega) (by omega), bS, Int.toNat_natCast]
  obtain ⟨r, e, r1, r2⟩ := lpO_big (step := fun (st : (List Nat) × Int) => privityref14_Resize_L0 l ((m : Nat) : Int) st.1 st.2) (fun st => ∃ k : Nat, st.2 = k ∧ k ≤ m ∧ st.1.length = m ∧ ∀ q, q < m → st.1.getD q 0 = if q < k then l.getD q 0 else 0)
    (fun r => r.length = m ∧ ∀ k, k < m → r.getD k 0 = l.getD k 0) (fun st => m - st.2.toNat) (fun st ⟨k, h1, h2, h3, h4⟩ => by
      obtain ⟨l2, x⟩ := st
      replace h1 : x = k := h1
      replace h3 : l2.length = m := h3
      replace h4 : ∀ q, q < m → l2.getD q 0 = if q < k then l.getD q 0 else 0 := h4
      subst h1
      show ∃ q, privityref14_Resize_L0 l ((m : Nat) : Int) l2 ((k : Nat) : Int) = some q ∧ _
      unfold privityref14_Resize_L0
      by_cases c : k < m ∧ k < l.length
      · rw [dT (by omega), cT, dT (by omega), bS, cT, idx_getD 0 (by omega) (by omega), bS, idx_getD 0 (by omega) (by omega), bS, bS, addI_some (by omega) (by omega), bS]
        simp only [Int.toNat_natCast]
        refine ⟨_, rfl, ⟨k + 1, by show ((k : Nat) : Int) + 1 = _; omega, by omega, by show (l2.set k _).length = m; rw [List.length_set]; exact h3, fun q hq => ?_⟩, by show m - ((k : Int) + 1).toNat < m - ((k : Nat) : Int).toNat; omega⟩
        show (l2.set k _).getD q 0 = _
        rw [getD_set (by omega)]
        by_cases g : k = q
        · rw [if_pos g, if_pos (by omega), g]
        · rw [if_neg g, h4 q hq]
          by_cases g2 : q < k
          · rw [if_pos g2, if_pos (by omega)]
          · rw [if_neg g2, if_neg (by omega)]
      · have hx : (bif decide (((k : Nat) : Int) < ((m : Nat) : Int)) then some (decide (((k : Nat) : Int) < ((l.length : Nat) : Int))) else some false) = some false := by
          by_cases g : k < m
          · rw [dT (by omega), cT, dF (by omega)]
          · rw [dF (by omega), cF]
        rw [hx, bS, cF]
        refine ⟨_, rfl, h3, fun q hq => ?_⟩
        rw [h4 q hq]
        by_cases g2 : q < k
        · rw [if_pos g2]
        · rw [if_neg g2, getD_ge (by omega)])
    (s := (List.replicate m 0, ((0 : Nat) : Int))) ⟨0, rfl, by omega, by simp, fun q hq => by rw [if_neg (by omega)]; simp [List.getD_eq_getElem?_getD, hq]⟩ (by show m - _ < _; omega)
  rw [e, bS]
  exact ⟨r, rfl, r1, r2⟩
theorem law_Detection (z : T_privitylaw20_Poly) (hK : ∀ x ∈ z.W.Deviations, x.K < 18446744073709551616) : privitylaw20_ReconstructDetection z = some true := by
  unfold privitylaw20_ReconstructDetection
  obtain ⟨b, e, hb⟩ := small_ok hK
  rw [e, bS]
  cases b with
  | false => rw [nF, cT, bS, cT, aw20, bS]
  | true =>
    by_cases hF0 : z.F.length = 0
    · rw [nT, cF, eT (by omega), bS, cT, aw20, bS]
    obtain ⟨⟨n, t, v, hv⟩, hF, hO⟩ := hb rfl
    have s := v.toSc
    have hp := s.sup
    haveI : NeZero z.W.S.P := hp.ne
    haveI : NeZero (netOf z.W n).zw.S.P := hp.ne
    have h13 := s.n13
    have h3 := s.t3
    have hlt := hp.lt
    obtain ⟨m, em⟩ := nets20_ok v hv
    obtain ⟨sh, es, s1, s2, s3⟩ := shared_ok s hF hO
    obtain ⟨all, vals, caught, r, views, ev, q1, q2, q3, q4, q5, q6, q7, q8, q9⟩ := values_ok (net := netOf z.W n) (m := z.F.length) s s1 s2 (by omega) netOf_views.1 (fun j hj => by rw [netOf_views.2 j hj]; simp) ⟨by show (0 : Int) ≤ 0; omega, by show (0 : Int) ≤ 1000; omega⟩ (fun k => cutW z.W.S.P (z.F.getD k []) (t + 1)) (fun k hk => by rw [cutW_len]; omega) s3
    have hm : max 1 (z.W.S.N + 1).toNat = n + 1 := by rw [s.N]; omega
    rw [nT, cF, eF (by omega), bS, cF, em, bS, sR, sR, sR, es, bS, ev, bS]
    simp only
    rw [q5, qF s.N.symm, cF, hm, ckN_some (by omega), bS, Nat.add_sub_cancel, rgO_go' (fun j1 hj1 hj2 => by
      obtain ⟨j, rfl⟩ : ∃ j, j1 = j + 1 := ⟨j1 - 1, by omega⟩
      have hj : j < n := by omega
      unfold privitylaw20_ReconstructDetection_L0
      rw [honest_ok, bS]
      by_cases hc : ((j + 1 : Nat) : Int) ∉ z.W.Corrupt
      · have hvw : views.getD j [] = evs 0 all j n := by
          have h9 := (q9 j hj).1 (by omega)
          rw [netOf_views.2 j hj, List.nil_append] at h9
          exact h9
        have hel := evs_len (round := 0) (all := all) (j := j) (k := n)
        have hvo := view_ok (net := ⟨(netOf z.W n).zw, r, views, (netOf z.W n).ztapes⟩) (i := j) (by show j < views.length; omega) (by show views.length ≤ 1000; omega) (by show (views.getD j []).length ≤ 1000; rw [hvw]; omega)
        rw [dT hc, nT, cF]
        simp only
        rw [hvo, bS]
        show (rgO _ _ _ _ >>= _) = _
        rw [hvw, hm, Nat.add_sub_cancel, rgO_go' (fun i1 hi1 hi2 => by
          obtain ⟨i, rfl⟩ : ∃ i, i1 = i + 1 := ⟨i1 - 1, by omega⟩
          have hi : i < n := by omega
          unfold privitylaw20_ReconstructDetection_L1
          by_cases hij : i = j
          · rw [eT (by omega), cT]
          · rw [eF (by omega), cF, mkO_some (by omega) (by omega) (by omega) (by omega), bS, Int.toNat_natCast, Nat.sub_zero]
            obtain ⟨w1, w2⟩ := q1.w i hi j hj
            generalize hw : (all.getD i []).getD j [] = w at w1 w2
            -- what was said
            obtain ⟨l3, e3, l31, l32⟩ := rgS_inv (body := fun k3 (st : (List Nat)) => privitylaw20_ReconstructDetection_L2 z (evs 0 all j n) (i + 1) k3 st) (rem := (evs 0 all j n).length) (k := 0) (s := List.replicate z.F.length 0)
              (fun k3 l => l.length = z.F.length ∧ (((∀ q, q < k3 → ((evs 0 all j n).getD q default).From ≠ (i : Int) + 1) ∧ l = List.replicate z.F.length 0) ∨ ∀ k, k < z.F.length → l.getD k 0 = w.getD k 0)) ⟨by simp, .inl ⟨fun q hq => by omega, rfl⟩⟩ (fun k3 l _ hk3 ⟨a1, a2⟩ => by
                have hk3' : k3 < (evs 0 all j n).length := by omega
                have hmem : (evs 0 all j n).getD k3 default ∈ evs 0 all j n := getD_mem hk3'
                unfold privitylaw20_ReconstructDetection_L2
                rw [ix default hk3', bS]
                by_cases g : ((evs 0 all j n).getD k3 default).From = ((i + 1 : Nat) : Int)
                · obtain ⟨i', h1, h2, h4, h5⟩ := evs_mem.1 hmem
                  have hii : i' = i := by rw [h5] at g; simp only at g; omega
                  subst hii
                  obtain ⟨r', er, r1, r2⟩ := refResize_ok (l := w) (m := z.F.length) (by omega)
                  rw [eT g, cT, h5]
                  simp only
                  rw [hw, er, bS]
                  exact ⟨_, rfl, r1, .inr r2⟩
                · rw [eF g, cF]
                  refine ⟨_, rfl, a1, a2.imp (fun ⟨b1, b2⟩ => ⟨fun q hq => ?_, b2⟩) id⟩
                  by_cases c : q < k3
                  · exact b1 q c
                  · have : q = k3 := by omega
                    rw [this]; exact fun h => g (by rw [h]; omega))
            have hsaid : ∀ k, k < z.F.length → l3.getD k 0 = w.getD k 0 := by
              rcases l32 with ⟨b1, b2⟩ | h
              · intro k hk
                have hw0 : w.length = 0 := by
                  apply Classical.byContradiction
                  intro hne
                  have hin : (⟨0, ((i : Nat) : Int) + 1, w⟩ : T_api_Event) ∈ evs 0 all j n := evs_mem.2 ⟨i, hi, hij, by rw [hw]; omega, by rw [hw]⟩
                  obtain ⟨q, hq, hqe⟩ := List.mem_iff_getElem.1 hin
                  refine b1 q (by omega) ?_
                  rw [List.getD_eq_getElem?_getD, List.getElem?_eq_getElem hq, Option.getD_some, hqe]
                rw [b2, getD_ge (l := w) (by omega)]; simp [List.getD_eq_getElem?_getD, hk]
              · exact h
            rw [e3, bS, Nat.sub_zero]
            obtain ⟨x8, e8, hx8⟩ := rgS_inv (body := fun k4 (st : Bool) => privitylaw20_ReconstructDetection_L3 z (i + 1) l3 k4 st) (rem := z.F.length) (k := 0) (s := false)
              (fun k4 st => st = (List.range k4).any fun k => decide (evl (P z.W.S.P (cutW z.W.S.P (z.F.getD k []) (t + 1))) (o z.W.S.P (i + 1)) ≠ o z.W.S.P (w.getD k 0))) rfl (fun k4 st _ hk4 hst => by
                have hkF : k4 < z.F.length := by omega
                have et : z.W.S.T + 1 = ((t + 1 : Nat) : Int) := by rw [s.T]; omega
                have hu : toU ((i + 1 : Nat) : Int) = i + 1 := by unfold toU; omega
                obtain ⟨y, ey, y1, y2⟩ := refEval_ok hp (f := cutW z.W.S.P (z.F.getD k4 []) (t + 1)) (x := i + 1) (cutW_lt hp.pos) (by omega)
                unfold privitylaw20_ReconstructDetection_L3
                rw [List.range_succ, List.any_append, ← hst]
                cases st with
                | true => rw [cT]; exact ⟨_, rfl, rfl⟩
                | false =>
                  rw [cF, ix 0 (by omega), bS, ix [] hkF, bS, addI_some (by rw [s.T]; omega) (by rw [s.T]; omega), bS, et, words_ok hp.pos (by omega), bS, bS, hu, ey, bS, hsaid k4 hkF]
                  refine ⟨_, rfl, ?_⟩
                  simp only [List.any_cons, List.any_nil, Bool.or_false, Bool.false_or]
                  rw [← y2]
                  by_cases g : w.getD k4 0 = y
                  · rw [qF (by omega), g]; simp
                  · rw [qT (by omega)]
                    symm
                    rw [decide_eq_true_eq]
                    exact fun h => g (o_inj (w1.get hp.pos k4) y1 h.symm))
            rw [Nat.zero_add] at hx8
            rw [e8, bS]
            have hcl : (caught.getD j []).length ≤ n := by
              rw [q8 j hj, List.length_map]; exact Nat.le_trans (List.length_filter_le ..) (by simp)
            obtain ⟨x16, e16, hx16⟩ := lpO_big (step := fun (st : Bool × Int) => privitylaw20_ReconstructDetection_L4 (vals, caught, r, views) (j + 1) (i + 1) st.1 st.2) (fun st => ∃ k : Nat, st.2 = k ∧ k ≤ (caught.getD j []).length ∧ st.1 = decide (((i + 1 : Nat) : Int) ∈ (caught.getD j []).take k))
              (fun o => o = decide (((i + 1 : Nat) : Int) ∈ caught.getD j [])) (fun st => (caught.getD j []).length - st.2.toNat) (fun st ⟨k, hk, hkl, hst⟩ => by
                obtain ⟨x13, x14⟩ := st
                replace hk : x14 = k := hk
                replace hst : x13 = decide (((i + 1 : Nat) : Int) ∈ (caught.getD j []).take k) := hst
                subst hk
                show ∃ q, privitylaw20_ReconstructDetection_L4 (vals, caught, r, views) (j + 1) (i + 1) x13 ((k : Nat) : Int) = some q ∧ _
                have ej : ((j + 1 : Nat) : Int) - 1 = (j : Int) := by omega
                unfold privitylaw20_ReconstructDetection_L4
                rw [subI_some (by omega) (by omega), bS, ej]
                simp only
                rw [idx_getD [] (by omega) (by omega), bS, Int.toNat_natCast]
                by_cases g : k < (caught.getD j []).length
                · have htk : (caught.getD j []).take (k + 1) = (caught.getD j []).take k ++ [(caught.getD j []).getD k 0] := by
                    rw [List.take_add_one, ix 0 g]; rfl
                  rw [dT (by omega), cT]
                  cases x13 with
                  | true =>
                    rw [cT, addI_some (by omega) (by omega), bS]
                    refine ⟨_, rfl, ⟨k + 1, by show ((k : Nat) : Int) + 1 = _; omega, by omega, ?_⟩, by show _ - ((k : Int) + 1).toNat < _ - ((k : Int)).toNat; omega⟩
                    show true = _
                    symm
                    rw [decide_eq_true_eq, htk]
                    exact List.mem_append_left _ (of_decide_eq_true hst.symm)
                  | false =>
                    rw [cF, idx_getD 0 (by omega) (by omega), bS, Int.toNat_natCast, addI_some (by omega) (by omega), bS]
                    refine ⟨_, rfl, ⟨k + 1, by show ((k : Nat) : Int) + 1 = _; omega, by omega, ?_⟩, by show _ - ((k : Int) + 1).toNat < _ - ((k : Int)).toNat; omega⟩
                    show (_ == _) = _
                    have hno : ((i + 1 : Nat) : Int) ∉ (caught.getD j []).take k := of_decide_eq_false hst.symm
                    rw [htk]
                    by_cases g2 : (caught.getD j []).getD k 0 = ((i + 1 : Nat) : Int)
                    · rw [eT g2]; symm
                      rw [decide_eq_true_eq, g2]
                      exact List.mem_append_right _ (List.mem_singleton.2 rfl)
                    · rw [eF g2]; symm
                      rw [decide_eq_false_iff_not, List.mem_append, List.mem_singleton]
                      exact fun h => h.elim hno (fun h => g2 h.symm)
                · rw [dF (by omega), cF]
                  refine ⟨_, rfl, ?_⟩
                  show x13 = _
                  rw [hst, List.take_of_length_le (by omega)])
              (s := (false, ((0 : Nat) : Int))) ⟨0, rfl, by omega, by simp⟩ (by show (caught.getD j []).length - _ < _; omega)
            rw [e16, bS]
            have hiff : x16 = x8 := by
              rw [hx16, hx8, q8 j hj, Bool.eq_iff_iff, decide_eq_true_eq, List.mem_map]
              constructor
              · rintro ⟨i', h1, h2⟩
                have hii : i' = i := by omega
                subst hii
                have := (List.mem_filter.1 h1).2
                rw [hw] at this
                exact this
              · intro h
                exact ⟨i, List.mem_filter.2 ⟨List.mem_range.2 hi, by rw [hw]; exact h⟩, by omega⟩
            rw [hiff, bne_self_eq_false, cF]), bS, oG]
      · rw [dF hc, nF, cT]), bS, oG, aw20, bS]
end Pu
