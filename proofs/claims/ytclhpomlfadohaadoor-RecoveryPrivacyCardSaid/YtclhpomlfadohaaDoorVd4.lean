/- Plain laws of chapter 47: messages; the own row is ignored. -/
import Derived.Test.YtclhpomlfadohaaDoorVd3
set_option linter.unusedVariables false
namespace Pu
open Gw Gl Sp Lean.Grind
def netOf (w : T_api_Scenario) (n : Nat) : T_network_Net := ⟨w, 0, List.replicate n [], List.replicate n ()⟩
theorem netOf_views {w : T_api_Scenario} {n : Nat} : (netOf w n).zviews.length = n ∧ ∀ j, j < n → ((netOf w n).zviews.getD j []) = [] := ⟨by simp [netOf], fun j hj => by simp [netOf, List.getD_eq_getElem?_getD, hj]⟩
theorem nets47_ok {w : T_api_Scenario} {n t : Nat} (v : Va w n t) (hv : privityref12_ValidScenario w = some true) : ∃ m, privitylaw47_nets w = some (.inr (.inr (.inr (netOf w n, m)))) := by
  obtain ⟨m, e⟩ := refNew_ok v hv
  unfold privitylaw47_nets
  rw [new_ok v, bS, sR, e, bS, sR]
  exact ⟨m, rfl⟩
theorem may47_ok {z : T_privitylaw47_Ask} (hK : ∀ x ∈ z.W.Deviations, x.K < 18446744073709551616) : ∃ b, privitylaw47_may z = some b ∧ (b = true → (∃ n t, Va z.W n t ∧ privityref12_ValidScenario z.W = some true) ∧ z.L.length ≤ 3 ∧ z.Spoil.length ≤ 20) := by
  unfold privitylaw47_may
  obtain ⟨b, e, hb⟩ := fair_ok (w := z.W) (lies := ((20 : Nat) : Int)) (words := ((20 : Nat) : Int)) hK (by omega) (by omega)
  rw [e, bS]
  cases b with
  | false => rw [cF]; exact ⟨_, rfl, fun h => by cases h⟩
  | true =>
    rw [cT]
    by_cases g : ((z.L.length : Nat) : Int) ≤ 3
    · rw [dT g, cT]
      refine ⟨_, rfl, fun h => ⟨hb rfl, by omega, ?_⟩⟩
      have := _root_.of_decide_eq_true h
      omega
    · rw [dF g, cF]; exact ⟨_, rfl, fun h => by cases h⟩
theorem who_ok {z : T_privitylaw47_Ask} {n : Nat} (hN : z.W.S.N = n) (h0 : 0 < n) (h13 : n ≤ 13) (hw : z.Who < 256) : privitylaw47_who z = some ((z.Who % n + 1 : Nat) : Int) ∧ z.Who % n < n := by
  have hm := Nat.mod_lt z.Who h0
  refine ⟨?_, hm⟩
  unfold privitylaw47_who
  have hu : toI ((z.Who : Nat) : Int) = z.Who := by unfold toI; omega
  have hr : remI ((z.Who : Nat) : Int) ((n : Nat) : Int) = some ((z.Who % n : Nat) : Int) := by
    unfold remI
    rw [if_neg (by omega), Int.tmod_eq_emod_of_nonneg (by omega)]; rfl
  rw [hu, bS, hN, hr, bS]
  generalize z.Who % n = q at *
  have e1 : (1 : Int) + (q : Int) = ((q + 1 : Nat) : Int) := by omega
  rw [addI_some (by omega) (by omega), bS, e1]
theorem view_ok {net : T_network_Net} {i : Nat} (hi : i < net.zviews.length) (hi2 : net.zviews.length ≤ 1000) (hb : (net.zviews.getD i []).length ≤ 1000) : network_Net_View net ((i + 1 : Nat) : Int) = some (net.zviews.getD i []) := by
  unfold network_Net_View
  have e : ((i + 1 : Nat) : Int) - 1 = (i : Int) := by omega
  rw [subI_some (by omega) (by omega), bS, e, idx_getD [] (by omega) (by omega), bS, Int.toNat_natCast, appO_some (by simp only [List.length_nil]; omega) (by simp only [List.length_nil]; omega), bS, List.nil_append]
theorem shs_of {p n t m : Nat} {out : List (List (List Nat))} (hlen : out.length = m) (h : ∀ k, k < m → (out.getD k []).length = n ∧ (∀ i, i < n → ((out.getD k []).getD i []).length = t + 1 ∧ Lt p ((out.getD k []).getD i []))) : Shs p n t out :=
  ⟨fun k hk => (h k (by omega)).1, fun k hk => (h k (by omega)).2⟩
theorem law_Messages (z : T_privitylaw47_Ask) (hK : ∀ x ∈ z.W.Deviations, x.K < 18446744073709551616) (hW : z.Who < 256) (hb : ∀ l ∈ z.L, l.length ≤ 140737488355328) : privitylaw47_RecoveryMessages z = some true := by
  unfold privitylaw47_RecoveryMessages
  obtain ⟨b, e, hbt⟩ := may47_ok hK
  rw [e, bS]
  cases b with
  | false => rw [nF, cT, aw47, bS]
  | true =>
    obtain ⟨⟨n, t, v, hv⟩, hL, hS⟩ := hbt rfl
    have s := v.toSc
    have hp := s.sup
    haveI : NeZero z.W.S.P := hp.ne
    haveI : NeZero (netOf z.W n).zw.S.P := hp.ne
    have h13 := s.n13
    have h4 := s.n4
    obtain ⟨m, em⟩ := nets47_ok v hv
    obtain ⟨ew, hw⟩ := who_ok (z := z) s.N (by omega) h13 hW
    obtain ⟨l, el, l1, l2⟩ := numbers_ok s v.par hL hS hb
    have hm : max 1 (z.W.S.N + 1).toNat = n + 1 := by rw [s.N]; omega
    rw [nT, cF, em, bS, sR, sR, sR, ew, bS, el, bS]
    generalize z.Who % n = w0 at *
    have key : ∃ rows r views, recovery_RecoverRows (netOf z.W n) ((w0 + 1 : Nat) : Int) l = some (rows, r, views) ∧ views.length = n ∧ (∀ j, j < n → j ≠ w0 → views.getD j [] = []) ∧ r = if z.L.length = 0 then 0 else 1 := by
      by_cases hl0 : z.L.length = 0
      · unfold recovery_RecoverRows
        rw [eT (by omega), cT]
        exact ⟨_, _, _, rfl, netOf_views.1, fun j hj _ => netOf_views.2 j hj, by rw [if_pos hl0]; rfl⟩
      · obtain ⟨all, rows, views, er, _, r2, r3, _⟩ := recover_ok (net := netOf z.W n) (w0 := w0) s (shs_of l1 (fun k hk => ⟨(l2 k hk).1, (l2 k hk).2.1⟩)) (by omega) (by omega) hw netOf_views.1 (fun j hj => by rw [netOf_views.2 j hj]; simp) ⟨by show (0 : Int) ≤ 0; omega, by show (0 : Int) ≤ 1000; omega⟩
        exact ⟨rows, _, views, er, r2, fun j hj hne => by rw [r3 j hj hne]; exact netOf_views.2 j hj, by rw [if_neg hl0]; rfl⟩
    obtain ⟨rows, r, views, er, k1, k2, k3⟩ := key
    rw [er, bS, hm, ckN_some (by omega), bS, Nat.add_sub_cancel]
    obtain ⟨o1, eo, ho⟩ := rgO_inv (body := fun k1 (st : Unit) => privitylaw47_RecoveryMessages_L0 (netOf z.W n, m) ((w0 + 1 : Nat) : Int) (rows, r, views) k1) (fun _ _ => True) (fun _ => False) (rem := n) (k := 1) (s := ()) trivial (fun j1 _ hj1 hj2 _ => by
      obtain ⟨j, rfl⟩ : ∃ j, j1 = j + 1 := ⟨j1 - 1, by omega⟩
      have hj : j < n := by omega
      unfold privitylaw47_RecoveryMessages_L0
      simp only
      by_cases g : j = w0
      · rw [qF (by omega), cF]; exact ⟨_, rfl, trivial⟩
      · have hvw := k2 j hj g
        rw [qT (by omega), cT, view_ok (net := ⟨(netOf z.W n).zw, r, views, (netOf z.W n).ztapes⟩) (by show j < views.length; omega) (by show views.length ≤ 1000; omega) (by show (views.getD j []).length ≤ 1000; rw [hvw]; simp), bS]
        show ∃ o, (bif decide ((((views.getD j []).length : Nat) : Int) > (0 : Int)) then _ else _) = some o ∧ _
        rw [hvw, dF (by simp), cF]
        exact ⟨_, rfl, trivial⟩)
    rw [eo, bS]
    cases o1 with
    | fin _ => exact ho.elim
    | go _ =>
      rw [oG]
      unfold network_Net_Rounds
      by_cases hl0 : z.L.length = 0
      · rw [if_pos hl0] at k3
        rw [eT (by omega), cT, aw47, bS, cT, bS]
        simp only
        rw [k3, eT rfl]
      · rw [if_neg hl0] at k3
        rw [eF (by omega), cF, aw47, bS, cT, bS]
        simp only
        rw [k3, eT rfl]
end Pu
