/- Plain laws of chapter 19: a run without deviations. -/
import Derived.Test.YtahofpgjianhdaaGreatDoorPj9
set_option linter.unusedVariables false
namespace Pu
open Gw Gl Sp
theorem trim0_ok {l : List Nat} (h : l.length ≤ 1000) (hz : ∀ k, l.getD k 0 = 0) : privityref04_Degree l = some (-1) := by
  have e1 : privityref04_Trim l = some [] := by
    unfold privityref04_Trim
    obtain ⟨r, er, hr⟩ := lpO_big (step := fun (st : Int) => privityref04_Trim_L0 l st) (fun s => ∃ k : Nat, s = (k : Int) ∧ k ≤ l.length) (fun r => r = 0) (fun s => s.toNat) (fun s ⟨k, hs, hk⟩ => by
      subst hs
      unfold privityref04_Trim_L0
      by_cases g : 0 < k
      · have e : ((k : Nat) : Int) - 1 = ((k - 1 : Nat) : Int) := by omega
        rw [dT (by omega), cT, subI_some (by omega) (by omega), bS, e, idx_getD 0 (by omega) (by omega), bS, Int.toNat_natCast, hz (k - 1), eT (show ((0 : Nat) : Int) = 0 from rfl), cT]
        exact ⟨_, rfl, ⟨k - 1, rfl, by omega⟩, by simp only [Int.toNat_natCast]; omega⟩
      · rw [dF (by omega), cF]
        exact ⟨_, rfl, by show ((k : Nat) : Int) = 0; omega⟩) (s := ((l.length : Nat) : Int)) ⟨l.length, rfl, Nat.le_refl _⟩ (by simp only [Int.toNat_natCast]; omega)
    subst hr
    rw [er, bS, cutO_some (by omega) (by omega) (by omega), bS, appO_some (by simp) (by simp), bS]
    simp
  unfold privityref04_Degree
  rw [e1, bS, List.length_nil, subI_some (by omega) (by omega), bS]
  rfl
theorem Va_plain {w : T_api_Scenario} {n t : Nat} (v : Va w n t) : Va ⟨w.S, w.Corrupt, [], w.Tapes⟩ n t :=
  { sup := v.sup, N := v.N, T := v.T, n4 := v.n4, n13 := v.n13, t1 := v.t1, t3 := v.t3, cl := v.cl, cr := v.cr, dl := by simp, dv := fun x hx => by simp at hx, ord := v.ord, tl := v.tl, tb := v.tb, ts := v.ts, full := fun x hx => by simp at hx }
theorem law_Without (x : T_privitylaw19_Play) (hK : ∀ y ∈ x.W.Deviations, y.K < 18446744073709551616) : privitylaw19_VSSWithoutDeviations x = some true := by
  unfold privitylaw19_VSSWithoutDeviations
  obtain ⟨b, e, hb⟩ := fair19_ok (q := x.Q) hK
  rw [aw19, bS, nT, cF, e, bS]
  cases b with
  | false => rw [nF, cT]
  | true =>
    obtain ⟨n, t, v0, hn, ht, Q⟩ := hb rfl
    have v := Va_plain v0
    have hp : Sup x.W.S.P := v.sup
    haveI : NeZero x.W.S.P := hp.ne
    have hlt := hp.lt
    obtain ⟨res, views, T, er, hr, hvb, hz⟩ := run_ok (x := ⟨⟨x.W.S, x.W.Corrupt, [], x.W.Tapes⟩, x.Q⟩) v hn ht Q
    have hz := hz rfl
    have hr : Res ⟨x.W.S, x.W.Corrupt, [], x.W.Tapes⟩ x.Q n t res := hr
    have hh : ∀ d, Hn (⟨x.W.S, x.W.Corrupt, [], x.W.Tapes⟩ : T_api_Scenario) d := fun d => .inr rfl
    have hN : x.W.S.N = ((n : Nat) : Int) := v.N
    have hmx : max 1 (x.W.S.N + 1).toNat = n + 1 := by rw [hN]; omega
    simp only at er
    rw [nT, cF, er, bS, sR]
    unfold network_Net_Rounds
    simp only
    rw [nT, cF, bS, qF rfl, bS, cF, hmx, ckN_some (by omega), bS, Nat.add_sub_cancel, rgO_true (fun a ha1 ha => by
      obtain ⟨d, rfl⟩ : ∃ d, a = d + 1 := ⟨a - 1, by omega⟩
      have hd : d < n := by omega
      have e0 : ((d + 1 : Nat) : Int) - 1 = ((d : Nat) : Int) := by omega
      unfold privitylaw19_VSSWithoutDeviations_L0
      simp only
      rw [subI_some (by omega) (by omega), bS, e0, idx_getD false (by omega) (by rw [hr.dl]; omega), bS, Int.toNat_natCast, hr.nd d hd (hh d), cF]
      obtain ⟨r, er2, hr2⟩ := lpO_big (step := fun (st : Int) => privitylaw19_VSSWithoutDeviations_L1 x ((⟨⟨x.W.S, x.W.Corrupt, [], x.W.Tapes⟩, 7, views, T⟩ : T_network_Net), res, true) (d + 1) ((d : Nat) : Int) st) (fun s => ∃ k : Nat, s = (k : Int) ∧ k ≤ (x.Q.getD d []).length) (fun r => r = .inr ()) (fun s => (x.Q.getD d []).length - s.toNat) (fun s ⟨k, hs, hk⟩ => by
          subst hs
          have hm2 := (Q.many d hd).1
          unfold privitylaw19_VSSWithoutDeviations_L1
          rw [idx_getD [] (by omega) (by rw [Q.len]; omega), bS, Int.toNat_natCast]
          by_cases g : k < (x.Q.getD d []).length
          · rw [dT (by omega), cT, chosen_ok (x := ⟨⟨x.W.S, x.W.Corrupt, [], x.W.Tapes⟩, x.Q⟩) v ht Q hd g, bS, hmx, Nat.add_sub_cancel, rgO_true (fun c hc1 hc => by
              obtain ⟨i, rfl⟩ : ∃ i, c = i + 1 := ⟨c - 1, by omega⟩
              have hi : i < n := by omega
              have e3 : ((i + 1 : Nat) : Int) - 1 = ((i : Nat) : Int) := by omega
              have hu : toU ((i + 1 : Nat) : Int) = i + 1 := by unfold toU; omega
              have hM := (Sm_mat (p := x.W.S.P) hp.pos ht Q hd g).2.1
              have hrow := hr.ok d hd (hh d) i hi (hh i) k g
              simp only at hrow
              unfold privitylaw19_VSSWithoutDeviations_L2
              simp only
              rw [subI_some (by omega) (by omega), bS, e3, idx_getD [] (by omega) (by rw [hr.rl]; omega), bS, Int.toNat_natCast, idx_getD [] (by omega) (by rw [hr.row i hi]; omega), bS, Int.toNat_natCast, idx_getD [] (by omega) (by rw [hr.many i hi d hd]; omega), bS, Int.toNat_natCast, bS, hu, (Rw_ok hp hM (by omega) (by omega)).2.1, bS, hrow, same_ok, bS, nT, cF]), bS, oG, addI_some (by omega) (by omega), bS]
            exact ⟨_, rfl, ⟨k + 1, by omega, by omega⟩, by simp only [Int.toNat_natCast]; omega⟩
          · rw [dF (by omega), cF]
            exact ⟨_, rfl, rfl⟩) (s := ((0 : Nat) : Int)) ⟨0, rfl, by omega⟩ (by have := (Q.many d hd).1; omega)
      rw [er2, bS, hr2, sbR]), bS, oG, rgO_true (fun a ha1 ha => by
      obtain ⟨j, rfl⟩ : ∃ j, a = j + 1 := ⟨a - 1, by omega⟩
      have hj : j < n := by omega
      have e0 : ((j + 1 : Nat) : Int) - 1 = ((j : Nat) : Int) := by omega
      have hb := hvb.2 j hj
      unfold privitylaw19_VSSWithoutDeviations_L3 network_Net_View
      simp only
      rw [subI_some (by omega) (by omega), bS, e0, idx_getD [] (by omega) (by rw [hvb.1]; omega), bS, Int.toNat_natCast, appO_some (by simp only [List.length_nil]; omega) (by simp only [List.length_nil]; omega), bS, List.nil_append, bS, Nat.sub_zero, rgO_true (fun c _ hc => by
        have hc : c < (views.getD j []).length := by omega
        unfold privitylaw19_VSSWithoutDeviations_L4
        rw [ix default hc, bS]
        have hin := getD_in (d := (default : T_api_Event)) hc
        by_cases g : 2 ≤ ((views.getD j []).getD c default).Round
        · rw [dT g, cT, trim0_ok (Nat.le_trans (hz j hj _ hin g).1 (by omega)) (hz j hj _ hin g).2, bS, dF (by omega), cF]
        · rw [dF g, cF]), bS, oG]), bS, oG]
end Pu
