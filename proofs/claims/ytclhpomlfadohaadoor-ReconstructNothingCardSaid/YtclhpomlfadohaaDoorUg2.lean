/- Plain laws of chapter 20: nothing to open. -/
import Derived.Test.YtclhpomlfadohaaDoorUb7
set_option linter.unusedVariables false
namespace Pu
open Gw Gl Sp Lean.Grind
theorem aw20 : privitylaw20_awake = some true := by decide +kernel
def netOf (w : T_api_Scenario) (n : Nat) : T_network_Net := ⟨w, 0, List.replicate n [], List.replicate n ()⟩
theorem nets20_ok {w : T_api_Scenario} {n t : Nat} (v : Va w n t) (hv : privityref12_ValidScenario w = some true) : ∃ m, privitylaw20_nets w = some (.inr (.inr (.inr (netOf w n, m)))) := by
  obtain ⟨m, e⟩ := refNew_ok v hv
  unfold privitylaw20_nets
  rw [new_ok v, bS, sR, e, bS, sR]
  exact ⟨m, rfl⟩
theorem rgO_go' {R : Type} {body : Nat → Unit → Option (Out Unit R)} : ∀ {n k : Nat}, (∀ j, k ≤ j → j < k + n → body j () = some (.go ())) → rgO body n k () = some (.go ())
  | 0, _, _ => rfl
  | n + 1, k, h => by
    simp only [rgO, h k (Nat.le_refl k) (by omega)]
    exact rgO_go' fun j h1 h2 => h j (by omega) (by omega)
theorem rep_get {α : Type} {n : Nat} {x : α} {i : Nat} (h : i < n) : (List.replicate n x)[i]? = some x := by rw [List.getElem?_replicate, if_pos h]
theorem rep_getD {α : Type} {n : Nat} {x d : α} {i : Nat} (h : i < n) : (List.replicate n x).getD i d = x := by rw [List.getD_eq_getElem?_getD, rep_get h]; rfl
theorem law_Nothing (w : T_api_Scenario) (hK : ∀ x ∈ w.Deviations, x.K < 18446744073709551616) : privitylaw20_ReconstructNothing w = some true := by
  unfold privitylaw20_ReconstructNothing
  obtain ⟨b, e, hb⟩ := fair_ok (w := w) (lies := ((40 : Nat) : Int)) (words := ((20 : Nat) : Int)) hK (by omega) (by omega)
  rw [e, bS]
  cases b with
  | false => rw [nF, cT, aw20, bS]
  | true =>
    obtain ⟨n, t, v, hv⟩ := hb rfl
    have s := v.toSc
    have h13 := s.n13
    have h4 := s.n4
    obtain ⟨m, em⟩ := nets20_ok v hv
    have hm : max 1 (w.S.N + 1).toNat = n + 1 := by rw [s.N]; omega
    have eN : (netOf w n).zw.S.N = (n : Int) := s.N
    have e0 : reconstruct_Values (netOf w n) (List.replicate n []) = some (List.replicate n [], List.replicate n [], 0, List.replicate n []) := by
      unfold reconstruct_Values network_Net_Scenario
      rw [bS, eN, mkO_some (by omega) (by omega) (by omega) (by omega), bS, mkO_some (by omega) (by omega) (by omega) (by omega), bS, rep_get (by omega), bS, eT (by rfl), cT, Int.toNat_natCast]
      rfl
    have e1 : reconstruct_Rows ⟨(netOf w n).zw, 0, List.replicate n [], (netOf w n).ztapes⟩ [] [] = some (List.replicate n [], 0, List.replicate n []) := by
      unfold reconstruct_Rows network_Net_Scenario
      rw [bS]
      simp only
      rw [eN, mkO_some (by omega) (by omega) (by omega) (by omega), bS, eT (by rfl), cT, Int.toNat_natCast]
    rw [nT, cF, em, bS, sR, sR, sR, s.N, mkO_some (by omega) (by omega) (by omega) (by omega), bS, Int.toNat_natCast, e0, bS]
    simp only
    rw [e1, bS]
    unfold network_Net_Rounds
    simp only
    rw [bS, qF rfl, cF]
    simp only [List.length_replicate]
    rw [qF (a := (n : Int)) rfl, cF, cF, bS, cF]
    have hm' : max 1 ((n : Int) + 1).toNat = n + 1 := by omega
    rw [hm', ckN_some (by omega), bS, Nat.add_sub_cancel, rgO_go' (fun j1 hj1 hj2 => by
      obtain ⟨j, rfl⟩ : ∃ j, j1 = j + 1 := ⟨j1 - 1, by omega⟩
      have hj : j < n := by omega
      have ej : ((j + 1 : Nat) : Int) - 1 = (j : Int) := by omega
      unfold privitylaw20_ReconstructNothing_L0 network_Net_View
      simp only
      rw [subI_some (by omega) (by omega), bS, ej, idx_getD [] (by omega) (by rw [List.length_replicate]; omega), bS, Int.toNat_natCast, rep_getD hj, appO_some (by simp) (by simp), bS, bS, dF (by simp), cF, bS, idx_getD [] (by omega) (by rw [List.length_replicate]; omega), bS, Int.toNat_natCast, rep_getD hj, idx_getD [] (by omega) (by rw [List.length_replicate]; omega), bS, Int.toNat_natCast, rep_getD hj, addI_some (by simp) (by simp), bS, idx_getD [] (by omega) (by rw [List.length_replicate]; omega), bS, Int.toNat_natCast, rep_getD hj, addI_some (by simp) (by simp), bS, dF (by simp), cF]), bS, oG, aw20, bS]
end Pu
