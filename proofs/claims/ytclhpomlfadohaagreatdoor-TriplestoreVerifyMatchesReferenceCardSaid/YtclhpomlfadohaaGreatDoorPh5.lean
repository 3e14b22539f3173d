/- Plain laws of chapter 20: opening rows as the reference does. -/
import Derived.Test.YtclhpomlfadohaaGreatDoorPh3
import Derived.Test.YtclhpomlfadohaaGreatDoorPh4
set_option linter.unusedVariables false
namespace Pu
open Gw Gl Sp Lean.Grind
theorem said_ok2 {net : T_network_Net} {n t L m : Nat} (s : Sc net.zw n t) {lists : List (List Nat)} (h1 : lists.length = n) (h2 : ∀ i, i < n → Lt net.zw.S.P (lists.getD i []) ∧ (lists.getD i []).length ≤ L) (hL : L ≤ 100) (hm : m ≤ 100) (hv : net.zviews.length = n) (hb : ∀ j, j < n → (net.zviews.getD j []).length ≤ 500) (hr : 0 ≤ net.zround ∧ net.zround ≤ 1000) :
    ∃ all heard views, reconstruct_said net lists ((m : Nat) : Int) = some (heard, net.zround + 1, views) ∧ Sq net.zw.S.P n L all ∧ (∀ i, i < n → (((i : Nat) : Int) + 1) ∉ net.zw.Corrupt → ∀ j, j < n → (all.getD i []).getD j [] = lists.getD i []) ∧
      heard.length = n ∧ (∀ j, j < n → (heard.getD j []).length = m ∧ ∀ k, k < m → (heard.getD j []).getD k [] = wd all n j k) ∧ views.length = n ∧ (∀ j, j < n → views.getD j [] = net.zviews.getD j [] ++ evs net.zround all j n) ∧
      ∃ out inn, out.length = n ∧ (∀ i, i < n → out.getD i [] = List.replicate n (lists.getD i [])) ∧ Sq net.zw.S.P n L out ∧ network_Net_Send net out = some (inn, net.zround + 1, views) ∧ inn.length = n ∧ ∀ j, j < n → (inn.getD j []).length = n ∧ ∀ i, i < n → (inn.getD j []).getD i [] = (all.getD i []).getD j [] := by
  have h13 := s.n13
  have hp := s.sup
  unfold reconstruct_said
  rw [h1, mkO_some (by omega) (by omega) (by omega) (by omega), bS, Int.toNat_natCast, Nat.sub_zero]
  obtain ⟨out, e1, o1, o2, _⟩ := rgS_inv (body := fun k1 (st : (List (List (List Nat)))) => reconstruct_said_L0 lists k1 st) (rem := n) (k := 0) (s := List.replicate n [])
    (fun k l => l.length = n ∧ (∀ i, i < k → l.getD i [] = List.replicate n (lists.getD i [])) ∧ ∀ i, k ≤ i → l.getD i [] = []) ⟨by simp, fun i hi => by omega, fun i _ => by by_cases g : i < n <;> simp [List.getD_eq_getElem?_getD, g]⟩ (fun k l _ hk ⟨g1, g2, g3⟩ => by
      have hkn : k < n := by omega
      unfold reconstruct_said_L0
      rw [ix [] (by omega), bS, h1, Nat.sub_zero]
      obtain ⟨l', e', q1, q2, q3⟩ := rgS_inv (body := fun k2 (st : (List (List (List Nat)))) => reconstruct_said_L1 k (lists.getD k []) k2 st) (rem := n) (k := 0) (s := l)
        (fun q l' => l'.length = n ∧ l'.getD k [] = List.replicate q (lists.getD k []) ∧ ∀ i, i ≠ k → l'.getD i [] = l.getD i []) ⟨g1, by rw [g3 k (Nat.le_refl k)]; rfl, fun _ _ => rfl⟩ (fun q l' _ hq ⟨q1, q2, q3⟩ => by
          unfold reconstruct_said_L1
          rw [ix [] (by omega), bS, q2, appO_some (by simp; omega) (by simp; omega), bS, bS]
          refine ⟨_, rfl, by rw [List.length_set]; exact q1, by rw [getD_set (by omega), if_pos rfl, ← List.replicate_succ'], fun i hi => by rw [getD_set (by omega), if_neg (fun e => hi e.symm)]; exact q3 i hi⟩)
      rw [e', bS]
      rw [Nat.zero_add] at q2
      refine ⟨_, rfl, q1, fun i hi => ?_, fun i hi => ?_⟩
      · by_cases g : i = k
        · subst g; exact q2
        · rw [q3 i g]; exact g2 i (by omega)
      · rw [q3 i (by omega)]; exact g3 i (by omega))
  rw [Nat.zero_add] at o2
  have sq : Sq net.zw.S.P n L out := ⟨o1, fun i hi => by rw [o2 i hi]; simp, fun i hi j hj => by
    have : (out.getD i []).getD j [] = lists.getD i [] := by rw [o2 i hi]; simp [List.getD_eq_getElem?_getD, hj]
    rw [this]; exact h2 i hi⟩
  obtain ⟨all, inn, views, _, es, ⟨s1, _⟩, s2, s3, s4, s5, s6⟩ := send_ok s sq hL hv hb hr
  rw [e1, bS, es, bS]
  simp only
  rw [s3, mkO_some (by omega) (by omega) (by omega) (by omega), bS, Int.toNat_natCast, Nat.sub_zero]
  obtain ⟨heard, e2, t1, t2, _⟩ := rgS_inv (body := fun k3 (st : (List (List (List Nat)))) => reconstruct_said_L2 ((m : Nat) : Int) (inn, net.zround + 1, views) k3 st) (rem := n) (k := 0) (s := List.replicate n [])
    (fun j l => l.length = n ∧ (∀ i, i < j → (l.getD i []).length = m ∧ ∀ k, k < m → (l.getD i []).getD k [] = wd all n i k) ∧ True) ⟨by simp, fun i hi => by omega, trivial⟩ (fun j l _ hj ⟨t1, t2, _⟩ => by
      have hjn : j < n := by omega
      obtain ⟨i1, i2⟩ := s4 j hjn
      unfold reconstruct_said_L2
      rw [mkO_some (by omega) (by omega) (by omega) (by omega), bS, Int.toNat_natCast, ix [] (by omega), bS, bS]
      simp only
      rw [ix [] (by omega), bS, i1, Nat.sub_zero]
      obtain ⟨l', e', q1, q2, q3, q4⟩ := rgS_inv (body := fun k4 (st : (List (List (List Nat)))) => reconstruct_said_L3 ((m : Nat) : Int) j (inn.getD j []) k4 st) (rem := n) (k := 0) (s := l.set j (List.replicate m []))
        (fun i l' => l'.length = n ∧ (l'.getD j []).length = m ∧ (∀ k, k < m → (l'.getD j []).getD k [] = wd all i j k) ∧ ∀ q, q ≠ j → l'.getD q [] = l.getD q []) ⟨by rw [List.length_set]; exact t1, by rw [getD_set (by omega), if_pos rfl]; simp, fun k hk => by rw [getD_set (by omega), if_pos rfl]; simp [wd, List.getD_eq_getElem?_getD, hk], fun q hq => by rw [getD_set (by omega), if_neg (fun e => hq e.symm)]⟩ (fun i l' _ hi ⟨q1, q2, q3, q4⟩ => by
          have hin : i < n := by omega
          unfold reconstruct_said_L3
          rw [ix [] (by omega), bS, i2 i hin]
          obtain ⟨r, er, r1, r2⟩ := resize_ok (l := (all.getD i []).getD j []) (m := m) (by omega)
          rw [er, bS, r1, Nat.sub_zero]
          obtain ⟨l2, e2, u1, u2, u3, u4⟩ := rgS_inv (body := fun k5 (st : (List (List (List Nat)))) => reconstruct_said_L4 j r k5 st) (rem := m) (k := 0) (s := l')
            (fun k l2 => l2.length = n ∧ (l2.getD j []).length = m ∧ (∀ q, q < m → (l2.getD j []).getD q [] = if q < k then wd all i j q ++ [r.getD q 0] else wd all i j q) ∧ ∀ q, q ≠ j → l2.getD q [] = l.getD q []) ⟨q1, q2, fun q hq => by rw [if_neg (by omega)]; exact q3 q hq, q4⟩ (fun k l2 _ hk ⟨u1, u2, u3, u4⟩ => by
              have hkm : k < m := by omega
              unfold reconstruct_said_L4
              have hwl := wd_len (all := all) (n := i) (j := j) (k := k)
              rw [ix 0 (by omega), bS, ix [] (by omega), bS, ix [] (by omega), bS, u3 k hkm, if_neg (by omega), appO_some (by rw [hwl]; simp; omega) (by rw [hwl]; simp; omega), bS, bS, bS]
              refine ⟨_, rfl, by rw [List.length_set]; exact u1, by rw [getD_set (by omega), if_pos rfl, List.length_set]; exact u2, fun q hq => ?_, fun q hq => by rw [getD_set (by omega), if_neg (fun e => hq e.symm)]; exact u4 q hq⟩
              rw [getD_set (by omega), if_pos rfl, getD_set (by omega)]
              by_cases g : k = q
              · subst g; rw [if_pos rfl, if_pos (by omega)]
              · rw [if_neg g, u3 q hq]
                by_cases g2 : q < k
                · rw [if_pos g2, if_pos (by omega)]
                · rw [if_neg g2, if_neg (by omega)])
          rw [e2, bS]
          refine ⟨_, rfl, u1, u2, fun k hk => ?_, u4⟩
          rw [u3 k hk, if_pos (by omega), r2 k hk]
          unfold wd
          rw [List.range_succ, List.map_append]; rfl)
      rw [e', bS]
      rw [Nat.zero_add] at q3
      refine ⟨_, rfl, q1, fun i hi => ?_, trivial⟩
      by_cases g : i = j
      · subst g; exact ⟨q2, q3⟩
      · rw [q4 i g]; exact t2 i (by omega))
  rw [Nat.zero_add] at t2
  rw [e2, bS]
  refine ⟨all, heard, views, rfl, s1, fun i hi hc j hj => ?_, t1, t2, s5, s6, out, inn, o1, fun i hi => o2 i hi, sq, es, s3, s4⟩
  rw [s2 i hi hc, o2 i hi]; simp [List.getD_eq_getElem?_getD, hj]
end Pu
