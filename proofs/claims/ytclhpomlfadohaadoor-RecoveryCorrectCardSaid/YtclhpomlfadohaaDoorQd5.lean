/- Plain laws of chapter 47: the own row is ignored. -/
import Derived.Test.YtclhpomlfadohaaDoorQd4
set_option linter.unusedVariables false
namespace Pu
open Gw Gl Sp Lean.Grind
theorem rgO_go' {R : Type} {body : Nat → Unit → Option (Out Unit R)} : ∀ {n k : Nat}, (∀ j, k ≤ j → j < k + n → body j () = some (.go ())) → rgO body n k () = some (.go ())
  | 0, _, _ => rfl
  | n + 1, k, h => by
    simp only [rgO, h k (Nat.le_refl k) (by omega)]
    exact rgO_go' fun j h1 h2 => h j (by omega) (by omega)
theorem words_refl (a : List Nat) : privityref14_Words a a = some true := by
  unfold privityref14_Words
  rw [qF rfl, cF, rgO_go' (fun j _ hj => by
    unfold privityref14_Words_L0
    rw [ix 0 (show j < a.length by omega), bS, bS, qF rfl, cF]), bS, oG]
theorem lists_refl (a : List (List Nat)) : privityref14_Lists a a = some true := by
  unfold privityref14_Lists
  rw [qF rfl, cF, rgO_go' (fun j _ hj => by
    unfold privityref14_Lists_L0
    rw [ix [] (show j < a.length by omega), bS, bS, words_refl, bS, nT, cF]), bS, oG]
theorem views_refl (a : List T_api_Event) : privityref14_Views a a = some true := by
  unfold privityref14_Views
  rw [qF rfl, cF, rgO_go' (fun j _ hj => by
    unfold privityref14_Views_L0
    rw [ix default (show j < a.length by omega), bS, bS, qF rfl, cF, qF rfl, cF, words_refl, bS, nT, cF]), bS, oG]
theorem rgS_congr {S : Type} {b c : Nat → S → Option S} : ∀ {rem k : Nat} {s : S}, (∀ j s, k ≤ j → j < k + rem → b j s = c j s) → rgS b rem k s = rgS c rem k s
  | 0, _, _, _ => rfl
  | rem + 1, k, s, h => by
    simp only [rgS, h k s (Nat.le_refl k) (by omega)]
    cases c k s with
    | none => rfl
    | some s' => exact rgS_congr fun j s h1 h2 => h j s (by omega) (by omega)
theorem rec_congr {net : T_network_Net} {n w0 : Nat} (hN : net.zw.S.N = n) (h13 : n ≤ 13) {l l' : List (List (List Nat))} (hlen : l.length = l'.length) (h1 : ∀ k, k < l.length → (l.getD k []).length = n) (h2 : ∀ k, k < l.length → (l'.getD k []).length = n)
    (he : ∀ k, k < l.length → ∀ i, i < n → i ≠ w0 → (l.getD k []).getD i [] = (l'.getD k []).getD i []) : recovery_RecoverRows net ((w0 + 1 : Nat) : Int) l = recovery_RecoverRows net ((w0 + 1 : Nat) : Int) l' := by
  have e1 : ∀ (w : T_api_Scenario) (i : Nat) (st : List (List (List Nat))), i < n → recovery_RecoverRows_L0 ((w0 + 1 : Nat) : Int) l w i st = recovery_RecoverRows_L0 ((w0 + 1 : Nat) : Int) l' w i st := fun w i st hi => by
    unfold recovery_RecoverRows_L0
    by_cases g : i = w0
    · have : (((i : Nat) : Int) + 1 == ((w0 + 1 : Nat) : Int)) = true := eT (by omega)
      rw [addI_some (by omega) (by omega)]
      simp only [bS, this, cT]
    · have hb : ∀ (st : List (List (List Nat))), rgS (fun k2 (st : (List (List (List Nat)))) => recovery_RecoverRows_L1 ((w0 + 1 : Nat) : Int) l w i k2 st) (l.length - 0) 0 st = rgS (fun k2 (st : (List (List (List Nat)))) => recovery_RecoverRows_L1 ((w0 + 1 : Nat) : Int) l' w i k2 st) (l'.length - 0) 0 st := fun st => by
        rw [← hlen]
        refine rgS_congr fun k st _ hk => ?_
        have hkl : k < l.length := by omega
        have a1 := h1 k hkl
        have a2 := h2 k hkl
        unfold recovery_RecoverRows_L1
        rw [ix [] hkl, ix [] (by omega : k < l'.length), bS, bS, ix [] (by omega : i < (l.getD k []).length), ix [] (by omega : i < (l'.getD k []).length), he k hkl i hi g]
      simp only [hb]
  have e2 : ∀ (w : T_api_Scenario) (x : List (List Nat)) (k : Nat) (st : List (List Nat)), recovery_RecoverRows_L2 ((w0 + 1 : Nat) : Int) l w x k st = recovery_RecoverRows_L2 ((w0 + 1 : Nat) : Int) l' w x k st := fun w x k st => by
    simp only [recovery_RecoverRows_L2, recovery_RecoverRows_L3, hlen]
  unfold recovery_RecoverRows network_Net_Scenario
  simp only [bS, hN]
  rw [mkO_some (by omega) (by omega) (by omega) (by omega)]
  simp only [bS, Int.toNat_natCast, List.length_replicate, Nat.sub_zero, e2, hlen]
  rw [rgS_congr (c := fun k1 (st : (List (List (List Nat)))) => recovery_RecoverRows_L0 ((w0 + 1 : Nat) : Int) l' net.zw k1 st) (fun j s _ hj => e1 _ j s (by omega))]
theorem law_IgnoresOwnRow (z : T_privitylaw47_Ask) (other : List Nat) (hK : ∀ x ∈ z.W.Deviations, x.K < 18446744073709551616) (hW : z.Who < 256) (hb : ∀ l ∈ z.L, l.length ≤ 140737488355328) : privitylaw47_RecoveryIgnoresOwnRow z other = some true := by
  unfold privitylaw47_RecoveryIgnoresOwnRow
  obtain ⟨b, e, hbt⟩ := may47_ok hK
  rw [e, bS]
  cases b with
  | false => rw [nF, cT, aw47, bS]
  | true =>
    obtain ⟨⟨n, t, v, hv⟩, hL, hS⟩ := hbt rfl
    have s := v.toSc
    have hp := s.sup
    haveI : NeZero z.W.S.P := hp.ne
    haveI : NeZero (netOf z.W n).zw.S.P := hp.ne
    have h13 := s.n13
    have h4 := s.n4
    have h3 := s.t3
    obtain ⟨m, em⟩ := nets47_ok v hv
    obtain ⟨ew, hw⟩ := who_ok (z := z) s.N (by omega) h13 hW
    obtain ⟨l, el, l1, l2⟩ := numbers_ok s v.par hL hS hb
    rw [nT, cF, em, bS, sR, sR, sR, el, bS, l1, Nat.sub_zero]
    generalize hw0 : z.Who % n = w0 at *
    have ewi : ((w0 + 1 : Nat) : Int) - 1 = (w0 : Int) := by omega
    have et : z.W.S.T + 1 = ((t + 1 : Nat) : Int) := by rw [s.T]; omega
    obtain ⟨l', e', c1, c2⟩ := rgS_inv (body := fun k1 (st : (List (List (List Nat)))) => privitylaw47_RecoveryIgnoresOwnRow_L0 z other l k1 st) (rem := z.L.length) (k := 0) (s := ([] : List (List (List Nat))))
      (fun k l' => l'.length = k ∧ ∀ q, q < k → (l'.getD q []).length = n ∧ ∀ i, i < n → i ≠ w0 → (l.getD q []).getD i [] = (l'.getD q []).getD i []) ⟨rfl, fun q hq => by omega⟩ (fun k l' _ hk ⟨c1, c2⟩ => by
        have hkL : k < z.L.length := by omega
        have a1 := (l2 k hkL).1
        unfold privitylaw47_RecoveryIgnoresOwnRow_L0
        rw [ix [] (by omega), bS, appO_some (by rw [a1]; simp; omega) (by rw [a1]; simp; omega), bS, List.nil_append, addI_some (by rw [s.T]; omega) (by rw [s.T]; omega), bS, et, mkO_some (by omega) (by omega) (by omega) (by omega), bS, Int.toNat_natCast]
        obtain ⟨row, er, hr⟩ := lpO_big (step := fun (st : (List Nat) × Int) => privitylaw47_RecoveryIgnoresOwnRow_L1 z other st.1 st.2) (fun st => st.1.length = t + 1 ∧ ∃ k : Nat, st.2 = k ∧ k ≤ t + 1) (fun r => r.length = t + 1) (fun st => t + 1 - st.2.toNat) (fun st ⟨b1, k, b2, b3⟩ => by
          obtain ⟨l5, x⟩ := st
          replace b1 : l5.length = t + 1 := b1
          replace b2 : x = k := b2
          subst b2
          show ∃ q, privitylaw47_RecoveryIgnoresOwnRow_L1 z other l5 ((k : Nat) : Int) = some q ∧ _
          unfold privitylaw47_RecoveryIgnoresOwnRow_L1
          by_cases c : k < t + 1 ∧ k < other.length
          · rw [dT (by omega), cT, dT (by omega), bS, cT, idx_getD 0 (by omega) (by omega), bS, remU_ok hp.pos, bS, idx_getD 0 (by omega) (by omega), bS, bS, addI_some (by omega) (by omega), bS]
            exact ⟨_, rfl, ⟨by show (l5.set _ _).length = _; rw [List.length_set]; exact b1, k + 1, rfl, by omega⟩, by show t + 1 - ((k : Int) + 1).toNat < t + 1 - ((k : Nat) : Int).toNat; omega⟩
          · have hx : (bif decide (((k : Nat) : Int) < ((l5.length : Nat) : Int)) then some (decide (((k : Nat) : Int) < ((other.length : Nat) : Int))) else some false) = some false := by
              by_cases g : k < t + 1
              · rw [dT (by omega), cT, dF (by omega)]
              · rw [dF (by omega), cF]
            rw [hx, bS, cF]
            exact ⟨_, rfl, b1⟩) (s := (List.replicate (t + 1) 0, ((0 : Nat) : Int))) ⟨by simp, 0, rfl, by omega⟩ (by show t + 1 - _ < _; omega)
        rw [er, bS, ew, bS, subI_some (by omega) (by omega), bS, ewi, idx_getD [] (by omega) (by omega), bS, bS, Int.toNat_natCast, appO_some (by rw [c1]; simp; omega) (by rw [c1]; simp; omega), bS]
        refine ⟨_, rfl, by simp [c1], fun q hq => ?_⟩
        by_cases g : q < k
        · rw [getD_app_l (by omega)]; exact c2 q g
        · have : q = k := by omega
          subst this
          rw [getD_app_e c1.symm]
          refine ⟨by rw [List.length_set]; exact a1, fun i hi hne => ?_⟩
          rw [getD_set (by omega), if_neg (fun e => hne e.symm)])
    rw [Nat.zero_add] at c1 c2
    rw [e', bS, ew, bS]
    have hcongr := rec_congr (net := netOf z.W n) (w0 := w0) s.N h13 (l := l) (l' := l') (by omega) (fun k hk => (l2 k (by omega)).1) (fun k hk => (c2 k (by omega)).1) (fun k hk => (c2 k (by omega)).2)
    have key : ∃ rows r views, recovery_RecoverRows (netOf z.W n) ((w0 + 1 : Nat) : Int) l = some (rows, r, views) ∧ views.length = n ∧ (views.getD w0 []).length ≤ 13 := by
      by_cases hl0 : z.L.length = 0
      · unfold recovery_RecoverRows
        rw [eT (by omega), cT]
        exact ⟨_, _, _, rfl, netOf_views.1, by rw [netOf_views.2 w0 hw]; simp⟩
      · obtain ⟨all, rows, views, er, _, r2, _, r4, _⟩ := recover_ok (net := netOf z.W n) (w0 := w0) s (shs_of l1 (fun k hk => ⟨(l2 k hk).1, (l2 k hk).2.1⟩)) (by omega) (by omega) hw netOf_views.1 (fun j hj => by rw [netOf_views.2 j hj]; simp) ⟨by show (0 : Int) ≤ 0; omega, by show (0 : Int) ≤ 1000; omega⟩
        refine ⟨rows, _, views, er, r2, ?_⟩
        have := r4 w0 hw
        rw [netOf_views.2 w0 hw, List.length_nil] at this
        omega
    obtain ⟨rows, r, views, er, k1, k2⟩ := key
    have er' := er
    rw [hcongr] at er'
    rw [er, bS, er', bS, aw47, bS, cT]
    simp only
    rw [lists_refl, bS, cT, view_ok (net := ⟨(netOf z.W n).zw, r, views, (netOf z.W n).ztapes⟩) (by show w0 < views.length; omega) (by show views.length ≤ 1000; omega) (by show (views.getD w0 []).length ≤ 1000; omega), bS, bS, views_refl, bS]
end Pu
