/- Plain laws of chapter 20: opening rows as the reference does: the law. -/
import Derived.Test.YtclhpomlfadohaaGreatDoorPh5
set_option linter.unusedVariables false
namespace Pu
open Gw Gl Sp Lean.Grind
theorem list_ext' {α : Type} {d : α} {a b : List α} (h1 : a.length = b.length) (h : ∀ i, i < a.length → a.getD i d = b.getD i d) : a = b := by
  apply List.ext_getElem?
  intro i
  by_cases g : i < a.length
  · rw [ix d g, ix d (by omega), h i g]
  · rw [List.getElem?_eq_none (by omega), List.getElem?_eq_none (by omega)]
theorem take_succ' {α : Type} {d : α} {l : List α} {k : Nat} (h : k < l.length) : l.take (k + 1) = l.take k ++ [l.getD k d] := by
  rw [List.take_add_one, ix d h]; rfl
theorem refResize_ok {l : List Nat} {m : Nat} (hm : m ≤ 1000) : ∃ r, privityref14_Resize l ((m : Nat) : Int) = some r ∧ r.length = m ∧ ∀ k, k < m → r.getD k 0 = l.getD k 0 := by
  unfold privityref14_Resize
  rw [mkO_some (by omega) (by omega) (by omega) (by omega), bS, Int.toNat_natCast]
  obtain ⟨r, e, r1, r2⟩ := lpO_big (step := fun (st : (List Nat) × Int) => privityref14_Resize_L0 l ((m : Nat) : Int) st.1 st.2) (fun st => ∃ k : Nat, st.2 = k ∧ k ≤ m ∧ st.1.length = m ∧ ∀ q, q < m → st.1.getD q 0 = if q < k then l.getD q 0 else 0)
    (fun r => r.length = m ∧ ∀ k, k < m → r.getD k 0 = l.getD k 0) (fun st => m - st.2.toNat) (fun st ⟨k, h1, h2, h3, h4⟩ => by
      obtain ⟨l2, x⟩ := st
      replace h1 : x = k := h1
      replace h3 : l2.length = m := h3
      replace h4 : ∀ q, q < m → l2.getD q 0 = if q < k then l.getD q 0 else 0 := h4
      subst h1
      show ∃ q, privityref14_Resize_L0 l ((m : Nat) : Int) l2 ((k : Nat) : Int) = some q ∧ _
      unfold privityref14_Resize_L0
      by_cases c : k < m ∧ k < l.length
      · rw [dT (by omega), cT, dT (by omega), bS, cT, idx_getD 0 (by omega) (by omega), bS, idx_getD 0 (by omega) (by omega), bS, bS, addI_some (by omega) (by omega), bS]
        simp only [Int.toNat_natCast]
        refine ⟨_, rfl, ⟨k + 1, by show ((k : Nat) : Int) + 1 = _; omega, by omega, by show (l2.set k _).length = m; rw [List.length_set]; exact h3, fun q hq => ?_⟩, by show m - ((k : Int) + 1).toNat < m - ((k : Nat) : Int).toNat; omega⟩
        show (l2.set k _).getD q 0 = _
        rw [getD_set (by omega)]
        by_cases g : k = q
        · rw [if_pos g, if_pos (by omega), g]
        · rw [if_neg g, h4 q hq]
          by_cases g2 : q < k
          · rw [if_pos g2, if_pos (by omega)]
          · rw [if_neg g2, if_neg (by omega)]
      · have hx : (bif decide (((k : Nat) : Int) < ((m : Nat) : Int)) then some (decide (((k : Nat) : Int) < ((l.length : Nat) : Int))) else some false) = some false := by
          by_cases g : k < m
          · rw [dT (by omega), cT, dF (by omega)]
          · rw [dF (by omega), cF]
        rw [hx, bS, cF]
        refine ⟨_, rfl, h3, fun q hq => ?_⟩
        rw [h4 q hq]
        by_cases g2 : q < k
        · rw [if_pos g2]
        · rw [if_neg g2, getD_ge (by omega)])
    (s := (List.replicate m 0, ((0 : Nat) : Int))) ⟨0, rfl, by omega, by simp, fun q hq => by rw [if_neg (by omega)]; simp [List.getD_eq_getElem?_getD, hq]⟩ (by show m - _ < _; omega)
  rw [e, bS]
  exact ⟨r, rfl, r1, r2⟩
theorem rgO_go' {R : Type} {body : Nat → Unit → Option (Out Unit R)} : ∀ {n k : Nat}, (∀ j, k ≤ j → j < k + n → body j () = some (.go ())) → rgO body n k () = some (.go ())
  | 0, _, _ => rfl
  | n + 1, k, h => by
    simp only [rgO, h k (Nat.le_refl k) (by omega)]
    exact rgO_go' fun j h1 h2 => h j (by omega) (by omega)
theorem words_refl (a : List Nat) : privityref14_Words a a = some true := by
  unfold privityref14_Words
  rw [qF rfl, cF, rgO_go' (fun j _ hj => by
    unfold privityref14_Words_L0
    rw [ix 0 (show j < a.length by omega), bS, bS, qF rfl, cF]), bS, oG]
theorem lists_refl (a : List (List Nat)) : privityref14_Lists a a = some true := by
  unfold privityref14_Lists
  rw [qF rfl, cF, rgO_go' (fun j _ hj => by
    unfold privityref14_Lists_L0
    rw [ix [] (show j < a.length by omega), bS, bS, words_refl, bS, nT, cF]), bS, oG]
theorem views_refl (a : List T_api_Event) : privityref14_Views a a = some true := by
  unfold privityref14_Views
  rw [qF rfl, cF, rgO_go' (fun j _ hj => by
    unfold privityref14_Views_L0
    rw [ix default (show j < a.length by omega), bS, bS, qF rfl, cF, qF rfl, cF, words_refl, bS, nT, cF]), bS, oG]
def netOf (w : T_api_Scenario) (n : Nat) : T_network_Net := ⟨w, 0, List.replicate n [], List.replicate n ()⟩
theorem netOf_views {w : T_api_Scenario} {n : Nat} : (netOf w n).zviews.length = n ∧ ∀ j, j < n → ((netOf w n).zviews.getD j []) = [] := ⟨by simp [netOf], fun j hj => by simp [netOf, List.getD_eq_getElem?_getD, hj]⟩
theorem view_ok {net : T_network_Net} {i : Nat} (hi : i < net.zviews.length) (hi2 : net.zviews.length ≤ 1000) (hb : (net.zviews.getD i []).length ≤ 1000) : network_Net_View net ((i + 1 : Nat) : Int) = some (net.zviews.getD i []) := by
  unfold network_Net_View
  have e : ((i + 1 : Nat) : Int) - 1 = (i : Int) := by omega
  rw [subI_some (by omega) (by omega), bS, e, idx_getD [] (by omega) (by omega), bS, Int.toNat_natCast, appO_some (by simp only [List.length_nil]; omega) (by simp only [List.length_nil]; omega), bS, List.nil_append]
end Pu
