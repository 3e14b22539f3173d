/- Plain laws of chapter 20: opening rows as the reference does: the law. -/
import Derived.Test.YtclhpomlfadohaaGreatDoorPh5
set_option linter.unusedVariables false
namespace Pu
open Gw Gl Sp Lean.Grind
theorem list_ext' {α : Type} {d : α} {a b : List α} (h1 : a.length = b.length) (h : ∀ i, i < a.length → a.getD i d = b.getD i d) : a = b := by
  apply List.ext_getElem?
  intro i
  by_cases g : i < a.length
  · rw [ix d g, ix d (by omega), h i g]
  · rw [List.getElem?_eq_none (by omega), List.getElem?_eq_none (by omega)]
theorem take_succ' {α : Type} {d : α} {l : List α} {k : Nat} (h : k < l.length) : l.take (k + 1) = l.take k ++ [l.getD k d] := by
  rw [List.take_add_one, ix d h]; rfl
theorem refResize_ok {l : List Nat} {m : Nat} (hm : m ≤ 1000) : ∃ r, privityref14_Resize l ((m : Nat) : Int) = some r ∧ r.length = m ∧ ∀ k, k < m → r.getD k 0 = l.getD k 0 := by
  unfold privityref14_Resize
  rw [mkO_some (by omega) (by omega) (by omega) (by omega), bS, Int.toNat_natCast]
  obtain ⟨r, e, r1, r2⟩ := lpO_big (step := fun (st : (List Nat) × Int) => privityref14_Resize_L0 l ((m : Nat) : Int) st.1 st.2) (fun st => ∃ k : Nat, st.2 = k ∧ k ≤ m ∧ st.1.length = m ∧ ∀ q, q < m → st.1.getD q 0 = if q < k then l.getD q 0 else 0)
    (fun r => r.length = m ∧ ∀ k, k < m → r.getD k 0 = l.getD k 0) (fun st => m - st.2.toNat) (fun st ⟨k, h1, h2, h3, h4⟩ => by
      obtain ⟨l2, x⟩ := st
      replace h1 : x = k := h1
      replace h3 : l2.length = m := h3
      replace h4 : ∀ q, q < m → l2.getD q 0 = if q < k then l.getD q 0 else 0 := h4
      subst h1
      show ∃ q, privityref14_Resize_L0 l ((m : Nat) : Int) l2 ((k : Nat) : Int) = some q ∧ _
      unfold privityref14_Resize_L0
      by_cases c : k < m ∧ k < l.length
      · rw [dT (by omega), cT, dT (by omega), bS, cT, idx_getD 0 (by omega) (by omega), bS, idx_getD 0 (by omega) (by omega), bS, bS, addI_some (by omega) (by omega), bS]
        simp only [Int.toNat_natCast]
        refine ⟨_, rfl, ⟨k + 1, by show ((k : Nat) : Int) + 1 = _; omega, by omega, by show (l2.set k _).length = m; rw [List.length_set]; exact h3, fun q hq => ?_⟩, by show m - ((k : Int) + 1).toNat < m - ((k : Nat) : Int).toNat; omega⟩
        show (l2.set k _).getD q 0 = _
        rw [getD_set (by omega)]
        by_cases g : k = q
        · rw [if_pos g, if_pos (by omega), g]
        · rw [if_neg g, h4 q hq]
          by_cases g2 : q < k
          · rw [if_pos g2, if_pos (by omega)]
          · rw [if_neg g2, if_neg (by omega)]
      · have hx : (bif decide (((k : Nat) : Int) < ((m : Nat) : Int)) then some (decide (((k : Nat) : Int) < ((l.length : Nat) : Int))) else some false) = some false := by
          by_cases g : k < m
          · rw [dT (by omega), cT, dF (by omega)]
          · rw [dF (by omega), cF]
        rw [hx, bS, cF]
        refine ⟨_, rfl, h3, fun q hq => ?_⟩
        rw [h4 q hq]
        by_cases g2 : q < k
        · rw [if_pos g2]
        · rw [if_neg g2, getD_ge (by omega)])
    (s := (List.replicate m 0, ((0 : Nat) : Int))) ⟨0, rfl, by omega, by simp, fun q hq => by rw [if_neg (by omega)]; simp [List.getD_eq_getElem?_getD, hq]⟩ (by show m - _ < _; omega)
  rw [e, bS]
  exact ⟨r, rfl, r1, r2⟩
theorem refLists_ok {l : List (List Nat)} {n : Nat} (hl : l.length = n) (hn : n ≤ 100) : ∃ out, privityref20_lists l = some out ∧ out.length = n ∧ ∀ i, i < n → out.getD i [] = List.replicate n (l.getD i []) := by
  unfold privityref20_lists
  rw [hl, Nat.sub_zero]
  obtain ⟨out, e, o1, o2⟩ := rgS_inv (body := fun k1 (st : (List (List (List Nat)))) => privityref20_lists_L0 l k1 st) (rem := n) (k := 0) (s := ([] : List (List (List Nat))))
    (fun k out => out.length = k ∧ ∀ i, i < k → out.getD i [] = List.replicate n (l.getD i [])) ⟨rfl, fun i hi => by omega⟩ (fun k out _ hk ⟨o1, o2⟩ => by
      have hkn : k < n := by omega
      unfold privityref20_lists_L0
      rw [hl, Nat.sub_zero]
      obtain ⟨r, er, hr⟩ := rgS_inv (body := fun k2 (st : (List (List Nat))) => privityref20_lists_L1 l k k2 st) (rem := n) (k := 0) (s := ([] : List (List Nat))) (fun q r => r = List.replicate q (l.getD k [])) rfl (fun q r _ hq hr => by
        have hrl : r.length = q := by rw [hr]; simp
        unfold privityref20_lists_L1
        rw [ix [] (by omega), bS, appO_some (by rw [hrl]; simp only [List.length_cons, List.length_nil]; omega) (by rw [hrl]; simp only [List.length_cons, List.length_nil]; omega), bS]
        exact ⟨_, rfl, by rw [hr, ← List.replicate_succ']⟩)
      rw [Nat.zero_add] at hr
      rw [er, bS, appO_some (by simp only [List.length_cons, List.length_nil]; omega) (by simp only [List.length_cons, List.length_nil]; omega), bS]
      refine ⟨_, rfl, by simp [o1], fun i hi => ?_⟩
      by_cases g : i < k
      · rw [getD_app_l (by omega)]; exact o2 i g
      · have : i = k := by omega
        subst this
        rw [getD_app_e o1.symm, hr])
  rw [Nat.zero_add] at o1 o2
  rw [e, bS]
  exact ⟨out, rfl, o1, o2⟩
/-- what a party decodes -/
theorem decoded_ok {s : T_api_Params} {n t k : Nat} [NeZero s.P] (hp : Sup s.P) (hN : s.N = n) (hT : s.T = t) (h13 : n ≤ 13) (h3 : 3 * t < n) {heard : List (List Nat)} (hl : heard.length = n) (hk : k ≤ 100) {pts : List T_api_Point} (p1 : pts.length = n) (p2 : ∀ i, i < n → pts.getD i default = ⟨i + 1, (heard.getD i []).getD k 0⟩) (hP : Pts s.P pts) :
    ∃ f at_ e f' b, reedsolomon_Decode s.P pts ((t : Nat) : Int) ((t : Nat) : Int) = some (f, at_, e) ∧ privityref20_Decoded s heard ((k : Nat) : Int) = some (f', at_, b) ∧ f.length ≤ t + 1 ∧ ∀ i, f.getD i 0 = f'.getD i 0 := by
  have hlt := hp.lt
  have hmx : max 0 s.N.toNat = n := by rw [hN]; simp
  unfold privityref20_Decoded
  rw [hmx, ckN_some (by omega), bS, Nat.sub_zero]
  obtain ⟨l, e, hle⟩ := rgS_inv (body := fun k1 (st : (List T_api_Point)) => privityref20_Decoded_L0 heard ((k : Nat) : Int) k1 st) (rem := n) (k := 0) (s := ([] : List T_api_Point)) (fun i l => l = pts.take i) (by simp) (fun i l _ hi h => by
    have hin : i < n := by omega
    have hll : l.length = i := by rw [h]; simp; omega
    have hu : toU (((i : Nat) : Int) + 1) = i + 1 := by unfold toU; omega
    have ek : ((k : Nat) : Int) + 1 = ((k + 1 : Nat) : Int) := by omega
    obtain ⟨r, er, r1, r2⟩ := refResize_ok (l := heard.getD i []) (m := k + 1) (by omega)
    unfold privityref20_Decoded_L0
    rw [addI_some (by omega) (by omega), bS, hu, bS, ix [] (by omega), bS, addI_some (by omega) (by omega), bS, ek, er, bS, idx_getD 0 (by omega) (by omega), bS, Int.toNat_natCast, r2 k (by omega), appO_some (by rw [hll]; simp only [List.length_cons, List.length_nil]; omega) (by rw [hll]; simp only [List.length_cons, List.length_nil]; omega), bS]
    refine ⟨_, rfl, ?_⟩
    rw [take_succ' (d := default) (by omega), p2 i hin, h])
  have hlp : l = pts := by rw [hle, Nat.zero_add, List.take_of_length_le (by omega)]
  subst hlp
  obtain ⟨f, at_, e1, f', e1', ed, ed', f1, f2, f3, f4, f5, f6⟩ := dec_eq (deg := t) (w := t) hp hP (by omega) (by omega)
  rw [e, bS, hT, ed', bS]
  exact ⟨f, at_, e1, f', _, ed, rfl, f3, f5⟩
theorem rgO_go' {R : Type} {body : Nat → Unit → Option (Out Unit R)} : ∀ {n k : Nat}, (∀ j, k ≤ j → j < k + n → body j () = some (.go ())) → rgO body n k () = some (.go ())
  | 0, _, _ => rfl
  | n + 1, k, h => by
    simp only [rgO, h k (Nat.le_refl k) (by omega)]
    exact rgO_go' fun j h1 h2 => h j (by omega) (by omega)
def netOf (w : T_api_Scenario) (n : Nat) : T_network_Net := ⟨w, 0, List.replicate n [], List.replicate n ()⟩
theorem netOf_views {w : T_api_Scenario} {n : Nat} : (netOf w n).zviews.length = n ∧ ∀ j, j < n → ((netOf w n).zviews.getD j []) = [] := ⟨by simp [netOf], fun j hj => by simp [netOf, List.getD_eq_getElem?_getD, hj]⟩
theorem view_ok {net : T_network_Net} {i : Nat} (hi : i < net.zviews.length) (hi2 : net.zviews.length ≤ 1000) (hb : (net.zviews.getD i []).length ≤ 1000) : network_Net_View net ((i + 1 : Nat) : Int) = some (net.zviews.getD i []) := by
  unfold network_Net_View
  have e : ((i + 1 : Nat) : Int) - 1 = (i : Int) := by omega
  rw [subI_some (by omega) (by omega), bS, e, idx_getD [] (by omega) (by omega), bS, Int.toNat_natCast, appO_some (by simp only [List.length_nil]; omega) (by simp only [List.length_nil]; omega), bS, List.nil_append]
end Pu
