/- Plain laws of chapter 20: opening rows as the reference does: the law. -/
import Derived.Test.YtclhpomlfadohaaGreatDoorPh5
set_option linter.unusedVariables false
namespace Pu
open Gw Gl Sp Lean.Grind
theorem list_ext' {α : Type} {d : α} {a b : List α} (h1 : a.length = b.length) (h : ∀ i, i < a.length → a.getD i d = b.getD i d) : a = b := by
  apply List.ext_getElem?
  intro i
  by_cases g : i < a.length
  · rw [ix d g, ix d (by omega), h i g]
  · rw [List.getElem?_eq_none (by omega), List.getElem?_eq_none (by omega)]
theorem take_succ' {α : Type} {d : α} {l : List α} {k : Nat} (h : k < l.length) : l.take (k + 1) = l.take k ++ [l.getD k d] := by
  rw [List.take_add_one, ix d h]; rfl
theorem refResize_ok {l : List Nat} {m : Nat} (hm : m ≤ 1000) : ∃ r, privityref14_Resize l ((m : Nat) : Int) = some r ∧ r.length = m ∧ ∀ k, k < m → r.getD k 0 = l.getD k 0 := by
  unfold privityref14_Resize
  rw [mkO_some (by omega) (by omega) (by omega) (by omega), bS, Int.toNat_natCast]
  obtain ⟨r, e, r1, r2⟩ := lpO_big (step := fun (st : (List Nat) × Int) => privityref14_Resize_L0 l ((m : Nat) : Int) st.1 st.2) (fun st => ∃ k : Nat, st.2 = k ∧ k ≤ m ∧ st.1.length = m ∧ ∀ q, q < m → st.1.getD q 0 = if q < k then l.getD q 0 else 0)
    (fun r => r.length = m ∧ ∀ k, k < m → r.getD k 0 = l.getD k 0) (fun st => m - st.2.toNat) (fun st ⟨k, h1, h2, h3, h4⟩ => by
      obtain ⟨l2, x⟩ := st
      replace h1 : x = k := h1
      replace h3 : l2.length = m := h3
      replace h4 : ∀ q, q < m → l2.getD q 0 = if q < k then l.getD q 0 else 0 := h4
      subst h1
      show ∃ q, privityref14_Resize_L0 l ((m : Nat) : Int) l2 ((k : Nat) : Int) = some q ∧ _
      unfold privityref14_Resize_L0
      by_cases c : k < m ∧ k < l.length
      · rw [dT (by omega), cT, dT (by omega), bS, cT, idx_getD 0 (by omega) (by omega), bS, idx_getD 0 (by omega) (by omega), bS, bS, addI_some (by omega) (by omega), bS]
        simp only [Int.toNat_natCast]
        refine ⟨_, rfl, ⟨k + 1, by show ((k : Nat) : Int) + 1 = _; omega, by omega, by show (l2.set k _).length = m; rw [List.length_set]; exact h3, fun q hq => ?_⟩, by show m - ((k : Int) + 1).toNat < m - ((k : Nat) : Int).toNat; omega⟩
        show (l2.set k _).getD q 0 = _
        rw [getD_set (by omega)]
        by_cases g : k = q
        · rw [if_pos g, if_pos (by omega), g]
        · rw [if_neg g, h4 q hq]
          by_cases g2 : q < k
          · rw [if_pos g2, if_pos (by omega)]
          · rw [if_neg g2, if_neg (by omega)]
      · have hx : (bif decide (((k : Nat) : Int) < ((m : Nat) : Int)) then some (decide (((k : Nat) : Int) < ((l.length : Nat) : Int))) else some false) = some false := by
          by_cases g : k < m
          · rw [dT (by omega), cT, dF (by omega)]
          · rw [dF (by omega), cF]
        rw [hx, bS, cF]
        refine ⟨_, rfl, h3, fun q hq => ?_⟩
        rw [h4 q hq]
        by_cases g2 : q < k
        · rw [if_pos g2]
        · rw [if_neg g2, getD_ge (by omega)])
    (s := (List.replicate m 0, ((0 : Nat) : Int))) ⟨0, rfl, by omega, by simp, fun q hq => by rw [if_neg (by omega)]; simp [List.getD_eq_getElem?_getD, hq]⟩ (by show m - _ < _; omega)
  rw [e, bS]
  exact ⟨r, rfl, r1, r2⟩
theorem refLists_ok {l : List (List Nat)} {n : Nat} (hl : l.length = n) (hn : n ≤ 100) : ∃ out, privityref20_lists l = some out ∧ out.length = n ∧ ∀ i, i < n → out.getD i [] = List.replicate n (l.getD i []) := by
  unfold privityref20_lists
  rw [hl, Nat.sub_zero]
  obtain ⟨out, e, o1, o2⟩ := rgS_inv (body := fun k1 (st : (List (List (List Nat)))) => privityref20_lists_L0 l k1 st) (rem := n) (k := 0) (s := ([] : List (List (List Nat))))
    (fun k out => out.length = k ∧ ∀ i, i < k → out.getD i [] = List.replicate n (l.getD i [])) ⟨rfl, fun i hi => by omega⟩ (fun k out _ hk ⟨o1, o2⟩ => by
      have hkn : k < n := by omega
      unfold privityref20_lists_L0
      rw [hl, Nat.sub_zero]
      obtain ⟨r, er, hr⟩ := rgS_inv (body := fun k2 (st : (List (List Nat))) => privityref20_lists_L1 l k k2 st) (rem := n) (k := 0) (s := ([] : List (List Nat))) (fun q r => r = List.replicate q (l.getD k [])) rfl (fun q r _ hq hr => by
        have hrl : r.length = q := by rw [hr]; simp
        unfold privityref20_lists_L1
        rw [ix [] (by omega), bS, appO_some (by rw [hrl]; simp only [List.length_cons, List.length_nil]; omega) (by rw [hrl]; simp only [List.length_cons, List.length_nil]; omega), bS]
        exact ⟨_, rfl, by rw [hr, ← List.replicate_succ']⟩)
      rw [Nat.zero_add] at hr
      rw [er, bS, appO_some (by simp only [List.length_cons, List.length_nil]; omega) (by simp only [List.length_cons, List.length_nil]; omega), bS]
      refine ⟨_, rfl, by simp [o1], fun i hi => ?_⟩
      by_cases g : i < k
      · rw [getD_app_l (by omega)]; exact o2 i g
      · have : i = k := by omega
        subst this
        rw [getD_app_e o1.symm, hr])
  rw [Nat.zero_add] at o1 o2
  rw [e, bS]
  exact ⟨out, rfl, o1, o2⟩
/-- what a party decodes -/
theorem decoded_ok {s : T_api_Params} {n t k : Nat} [NeZero s.P] (hp : Sup s.P) (hN : s.N = n) (hT : s.T = t) (h13 : n ≤ 13) (h3 : 3 * t < n) {heard : List (List Nat)} (hl : heard.length = n) (hk : k ≤ 100) {pts : List T_api_Point} (p1 : pts.length = n) (p2 : ∀ i, i < n → pts.getD i default = ⟨i + 1, (heard.getD i []).getD k 0⟩) (hP : Pts s.P pts) :
    ∃ f at_ e f' b, reedsolomon_Decode s.P pts ((t : Nat) : Int) ((t : Nat) : Int) = some (f, at_, e) ∧ privityref20_Decoded s heard ((k : Nat) : Int) = some (f', at_, b) ∧ f.length ≤ t + 1 ∧ ∀ i, f.getD i 0 = f'.getD i 0 := by
  have hlt := hp.lt
  have hmx : max 0 s.N.toNat = n := by rw [hN]; simp
  unfold privityref20_Decoded
  rw [hmx, ckN_some (by omega), bS, Nat.sub_zero]
  obtain ⟨l, e, hle⟩ := rgS_inv (body := fun k1 (st : (List T_api_Point)) => privityref20_Decoded_L0 heard ((k : Nat) : Int) k1 st) (rem := n) (k := 0) (s := ([] : List T_api_Point)) (fun i l => l = pts.take i) (by simp) (fun i l _ hi h => by
    have hin : i < n := by omega
    have hll : l.length = i := by rw [h]; simp; omega
    have hu : toU (((i : Nat) : Int) + 1) = i + 1 := by unfold toU; omega
    have ek : ((k : Nat) : Int) + 1 = ((k + 1 : Nat) : Int) := by omega
    obtain ⟨r, er, r1, r2⟩ := refResize_ok (l := heard.getD i []) (m := k + 1) (by omega)
    unfold privityref20_Decoded_L0
    rw [addI_some (by omega) (by omega), bS, hu, bS, ix [] (by omega), bS, addI_some (by omega) (by omega), bS, ek, er, bS, idx_getD 0 (by omega) (by omega), bS, Int.toNat_natCast, r2 k (by omega), appO_some (by rw [hll]; simp only [List.length_cons, List.length_nil]; omega) (by rw [hll]; simp only [List.length_cons, List.length_nil]; omega), bS]
    refine ⟨_, rfl, ?_⟩
    rw [take_succ' (d := default) (by omega), p2 i hin, h])
  have hlp : l = pts := by rw [hle, Nat.zero_add, List.take_of_length_le (by omega)]
  subst hlp
  obtain ⟨f, at_, e1, f', e1', ed, ed', f1, f2, f3, f4, f5, f6⟩ := dec_eq (deg := t) (w := t) hp hP (by omega) (by omega)
  rw [e, bS, hT, ed', bS]
  exact ⟨f, at_, e1, f', _, ed, rfl, f3, f5⟩
set_option maxHeartbeats 2000000 in
theorem refRows_ok {net : T_network_Net} {mn : T_privityref14_Net} (hz : mn.zw = net.zw) (hzr : mn.zround = net.zround) (hzv : mn.zviews = net.zviews) {n t m : Nat} [NeZero net.zw.S.P] (s : Sc net.zw n t) {w : List (List (List Nat))} {ats : List Int} (hm : m ≤ 20) (h1 : w.length = m) (hm0 : 0 < m) (h2 : ∀ k, k < m → (w.getD k []).length = n ∧ ∀ i, i < n → ((w.getD k []).getD i []).length ≤ 100 ∧ Lt net.zw.S.P ((w.getD k []).getD i []))
    (h3 : ats.length = m) {a : Nat → Nat} (h4 : ∀ k, k < m → ats.getD k 0 = ((a k + 1 : Nat) : Int) ∧ a k < n) (hv : net.zviews.length = n) (hb : ∀ j, j < n → (net.zviews.getD j []).length ≤ 500) (hr : 0 ≤ net.zround ∧ net.zround ≤ 1000) :
    ∃ rows views, reconstruct_Rows net w ats = some (rows, net.zround + 1, views) ∧ privityref20_Rows mn w ats = some (rows, net.zround + 1, views) ∧ rows.length = n ∧ views.length = n ∧ ∀ j, j < n → (views.getD j []).length ≤ (net.zviews.getD j []).length + n := by
  have hp := s.sup
  have hlt := hp.lt
  have h13 := s.n13
  have h3t := s.t3
  obtain ⟨lists, all, rows, views, er, l2, a1, a2, b1, a5, b2, a6, l1, out, inn, o1, o2, o3, es, i1, i2⟩ := rows_ok2 s hm h1 hm0 h2 h3 h4 hv hb hr
  refine ⟨rows, views, er, ?_, b1, a5, fun j hj => by rw [a6 j hj, List.length_append]; have := evs_len (round := net.zround) (all := all) (j := j) (k := n); omega⟩
  have hmx : max 0 ((n : Nat) : Int).toNat = n := by simp
  have eN : mn.zw.S.N = (n : Int) := by rw [hz]; exact s.N
  unfold privityref20_Rows privityref14_Net_Scenario
  rw [bS, h1, eN, mkO_some (by omega) (by omega) (by omega) (by omega), bS, eF (by omega), cF, hmx, ckN_some (by omega), bS, Nat.sub_zero, Int.toNat_natCast, hz]
  obtain ⟨l, el, hle⟩ := rgS_inv (body := fun k1 (st : (List (List Nat))) => privityref20_Rows_L0 w ats net.zw k1 st) (rem := n) (k := 0) (s := ([] : List (List Nat))) (fun i l => l = lists.take i) (by simp) (fun i l _ hi h => by
    have hin : i < n := by omega
    have hll : l.length = i := by rw [h]; simp; omega
    obtain ⟨c1, c2⟩ := l2 i hin
    unfold privityref20_Rows_L0
    rw [h1, Nat.sub_zero]
    obtain ⟨r, er, hre⟩ := rgS_inv (body := fun k2 (st : (List Nat)) => privityref20_Rows_L1 w ats net.zw i k2 st) (rem := m) (k := 0) (s := ([] : List Nat)) (fun k r => r = (lists.getD i []).take k) (by simp) (fun k r _ hk hr => by
      have hkm : k < m := by omega
      have hrl : r.length = k := by rw [hr, List.length_take]; omega
      obtain ⟨w1, w2⟩ := h2 k hkm
      obtain ⟨w3, w4⟩ := w2 i hin
      obtain ⟨q1, q2⟩ := h4 k hkm
      obtain ⟨d1, d2⟩ := c2 k hkm
      have hu : toU ((a k + 1 : Nat) : Int) = a k + 1 := by unfold toU; omega
      obtain ⟨y, ey, y1, y2⟩ := refEval_ok hp (x := a k + 1) w4 (by omega)
      have hy : y = (lists.getD i []).getD k 0 := o_inj y1 d1 (by rw [y2, d2])
      unfold privityref20_Rows_L1
      rw [ix [] (by omega), bS, ix [] (by omega), bS, ix 0 (by omega), bS, q1, bS, hu, ey, bS, appO_some (by rw [hrl]; simp only [List.length_cons, List.length_nil]; omega) (by rw [hrl]; simp only [List.length_cons, List.length_nil]; omega), bS]
      refine ⟨_, rfl, ?_⟩
      rw [take_succ' (d := 0) (by omega), hr, hy])
    have hrr : r = lists.getD i [] := by rw [hre, Nat.zero_add, List.take_of_length_le (by omega)]
    rw [er, bS, hrr, appO_some (by rw [hll]; simp only [List.length_cons, List.length_nil]; omega) (by rw [hll]; simp only [List.length_cons, List.length_nil]; omega), bS]
    refine ⟨_, rfl, ?_⟩
    rw [take_succ' (d := []) (by omega), h])
  have hll : l = lists := by rw [hle, Nat.zero_add, List.take_of_length_le (by omega)]
  obtain ⟨out', eo, q1, q2⟩ := refLists_ok l1 (by omega)
  have hout : out' = out := list_ext' (d := []) (by omega) (fun i hi => by rw [q2 i (by omega), o2 i (by omega)])
  have es' := refSend_ok (L := 20) s hz hzr hzv o3 (by omega) es
  rw [el, bS, hll, eo, bS, hout, es', bS]
  obtain ⟨r, erl, r1, r2, r3⟩ := rgS_inv (body := fun k3 (st : (List (List (List Nat)))) => privityref20_Rows_L2 w net.zw (inn, net.zround + 1, views) k3 st) (rem := n) (k := 0) (s := List.replicate n ([] : List (List Nat)))
    (fun j r => r.length = n ∧ (∀ j', j' < j → r.getD j' [] = rows.getD j' []) ∧ ∀ j', j ≤ j' → r.getD j' [] = [])
    ⟨by simp, fun i hi => by omega, fun i _ => by by_cases g : i < n <;> simp [List.getD_eq_getElem?_getD, g]⟩ (fun j r _ hj ⟨r1, r2, r3⟩ => by
      have hjn : j < n := by omega
      obtain ⟨c1, c2⟩ := b2 j hjn
      obtain ⟨x1, x2⟩ := i2 j hjn
      unfold privityref20_Rows_L2
      rw [h1, Nat.sub_zero]
      obtain ⟨q, eq, q1, q2, q3⟩ := rgS_inv (body := fun k4 (st : (List (List (List Nat)))) => privityref20_Rows_L3 net.zw (inn, net.zround + 1, views) j k4 st) (rem := m) (k := 0) (s := r)
        (fun k q => q.length = n ∧ q.getD j [] = (rows.getD j []).take k ∧ ∀ j', j' ≠ j → q.getD j' [] = r.getD j' [])
        ⟨r1, by rw [r3 j (Nat.le_refl j)]; simp, fun _ _ => rfl⟩ (fun k q _ hk ⟨q1, q2, q3⟩ => by
          have hkm : k < m := by omega
          obtain ⟨pts, f, at_, e, ep, ed, f1, f2, hrow⟩ := c2 k hkm
          have hwl : (wd all n j k).length = n := wd_len
          have hwp : Lt net.zw.S.P (wd all n j k) := fun i hi => by
            rw [hwl] at hi
            rw [wd_get hi]
            exact (a1.w i hi j hjn).1.get hp.pos k
          obtain ⟨pts', ep', p1, p2⟩ := points_ok (w := wd all n j k) (by omega)
          have hpp : pts' = pts := Option.some.inj (ep'.symm.trans ep)
          subst hpp
          have hP := pts_ok hp hwp (by omega) p1 p2
          obtain ⟨g, at2, e2, f', b, ed2, edd, g1, g2⟩ := decoded_ok (s := net.zw.S) (k := k) hp s.N s.T h13 h3t (heard := inn.getD j []) x1 (by omega) (by omega) (fun i hi => by rw [p2 i (by omega), wd_get hi, x2 i hi]) hP
          rw [s.T, ed2] at ed
          have hgf : g = f := (Prod.mk.inj (Option.some.inj ed)).1
          subst hgf
          have et : ((t : Nat) : Int) + 1 = ((t + 1 : Nat) : Int) := by omega
          obtain ⟨rr, err, rr1, rr2⟩ := refResize_ok (l := f') (m := t + 1) (by omega)
          have hrr : rr = (rows.getD j []).getD k [] := by
            rw [hrow]
            refine list_ext' (d := 0) (by rw [rr1, List.length_append, List.length_replicate]; omega) (fun i hi => ?_)
            rw [rr2 i (by omega), ← g2]
            by_cases c : i < g.length
            · rw [getD_app_l c]
            · rw [getD_ge (l := g) (by omega), List.getD_eq_getElem?_getD, List.getElem?_append_right (by omega), List.getElem?_replicate]
              split <;> rfl
          have hql : (q.getD j []).length = k := by rw [q2, List.length_take]; omega
          unfold privityref20_Rows_L3
          simp only
          rw [ix [] (by omega), bS, edd, bS, ix [] (by omega), bS, s.T, addI_some (by omega) (by omega), bS, et]
          simp only
          rw [err, bS, appO_some (by rw [hql]; simp only [List.length_cons, List.length_nil]; omega) (by rw [hql]; simp only [List.length_cons, List.length_nil]; omega), bS, bS]
          refine ⟨_, rfl, by rw [List.length_set]; exact q1, ?_, fun j' hj' => ?_⟩
          · rw [getD_set (by omega), if_pos rfl, take_succ' (d := []) (by omega), q2, hrr]
          · rw [getD_set (by omega), if_neg (fun e => hj' e.symm)]; exact q3 j' hj')
      rw [Nat.zero_add] at q2
      rw [eq, bS]
      refine ⟨_, rfl, q1, fun j' hj' => ?_, fun j' hj' => ?_⟩
      · by_cases g : j' = j
        · subst g
          rw [q2, List.take_of_length_le (by omega)]
        · rw [q3 j' g]; exact r2 j' (by omega)
      · rw [q3 j' (by omega)]; exact r3 j' (by omega))
  rw [Nat.zero_add] at r2
  have hrows : r = rows := list_ext' (d := []) (by omega) (fun j hj => r2 j (by omega))
  rw [erl, bS, hrows]
theorem below_ok {p : Nat} {l : List (List Nat)} {most : Int} : ∃ b, privityref14_Below p l most = some b ∧ (b = true → ∀ i, i < l.length → ((l.getD i []).length : Int) ≤ most ∧ Lt p (l.getD i [])) := by
  unfold privityref14_Below
  rw [Nat.sub_zero]
  obtain ⟨o1, e, ho⟩ := rgO_inv (body := fun k1 (st : Unit) => privityref14_Below_L0 p l most k1) (fun k _ => ∀ i, i < k → ((l.getD i []).length : Int) ≤ most ∧ Lt p (l.getD i [])) (fun r => r = false) (rem := l.length) (k := 0) (s := ()) (fun i hi => by omega) (fun k _ _ hk h => by
    have hkl : k < l.length := by omega
    unfold privityref14_Below_L0
    rw [ix [] hkl, bS]
    by_cases g : ((l.getD k []).length : Int) > most
    · rw [dT g, cT]; exact ⟨_, rfl, rfl⟩
    · rw [dF g, cF, Nat.sub_zero]
      obtain ⟨o2, e2, ho2⟩ := rgO_inv (body := fun k2 (st : Unit) => privityref14_Below_L1 p (l.getD k []) k2) (fun q _ => ∀ i, i < q → (l.getD k []).getD i 0 < p) (fun r => r = false) (rem := (l.getD k []).length) (k := 0) (s := ()) (fun i hi => by omega) (fun q _ _ hq h2 => by
        unfold privityref14_Below_L1
        rw [ix 0 (by omega), bS]
        by_cases c : (((l.getD k []).getD q 0 : Nat) : Int) ≥ (p : Int)
        · rw [dT c, cT]; exact ⟨_, rfl, rfl⟩
        · rw [dF c, cF]
          refine ⟨_, rfl, fun i hi => ?_⟩
          by_cases c2 : i < q
          · exact h2 i c2
          · have : i = q := by omega
            rw [this]; omega)
      rw [e2, bS]
      cases o2 with
      | fin r => rw [oF]; exact ⟨_, rfl, ho2⟩
      | go _ =>
        rw [oG]
        refine ⟨_, rfl, fun i hi => ?_⟩
        by_cases c : i < k
        · exact h i c
        · have : i = k := by omega
          subst this
          exact ⟨by omega, fun q hq => ho2 q (by omega)⟩)
  rw [e, bS]
  cases o1 with
  | fin r => rw [oF]; exact ⟨_, rfl, fun h => by rw [show r = false from ho] at h; cases h⟩
  | go _ => rw [oG]; exact ⟨_, rfl, fun _ i hi => ho i (by omega)⟩
theorem mayRows_ok {z : T_privitylaw20_AskRows} (hK : ∀ x ∈ z.W.Deviations, x.K < 18446744073709551616) : ∃ b, privitylaw20_mayRows z = some b ∧ (b = true → ∃ n t, (Va z.W n t ∧ privityref12_ValidScenario z.W = some true) ∧ z.L.length ≤ 4 ∧ z.At.length = z.L.length ∧
    ∀ k, k < z.L.length → (1 ≤ z.At.getD k 0 ∧ z.At.getD k 0 ≤ n) ∧ (z.L.getD k []).length = n ∧ ∀ i, i < n → ((z.L.getD k []).getD i []).length = t + 1 ∧ Lt z.W.S.P ((z.L.getD k []).getD i [])) := by
  unfold privitylaw20_mayRows
  obtain ⟨b, e, hb⟩ := fair_ok (w := z.W) (lies := ((40 : Nat) : Int)) (words := ((20 : Nat) : Int)) hK (by omega) (by omega)
  rw [e, bS]
  cases b with
  | false => rw [nF, cT, bS, cT]; exact ⟨_, rfl, fun h => by cases h⟩
  | true =>
    rw [nT, cF]
    by_cases g1 : ((z.L.length : Nat) : Int) > 4
    · rw [dT g1, cT, bS, cT]; exact ⟨_, rfl, fun h => by cases h⟩
    · rw [dF g1, cF]
      by_cases g2 : z.At.length = z.L.length
      · obtain ⟨n, t, v, hv⟩ := hb rfl
        have h13 := v.n13
        have h3 := v.t3
        have hmx : max 0 z.W.S.N.toNat = n := by rw [v.N]; simp
        have et : z.W.S.T + 1 = ((t + 1 : Nat) : Int) := by rw [v.T]; omega
        rw [qF (by omega), bS, cF, Nat.sub_zero]
        obtain ⟨o1, e1, ho⟩ := rgO_inv (body := fun k1 (st : Unit) => privitylaw20_mayRows_L0 z k1) (fun k _ => ∀ q, q < k → (1 ≤ z.At.getD q 0 ∧ z.At.getD q 0 ≤ n) ∧ (z.L.getD q []).length = n ∧ ∀ i, i < n → ((z.L.getD q []).getD i []).length = t + 1 ∧ Lt z.W.S.P ((z.L.getD q []).getD i [])) (fun r => r = false) (rem := z.L.length) (k := 0) (s := ()) (fun q hq => by omega) (fun k _ _ hk h => by
          have hkl : k < z.L.length := by omega
          unfold privitylaw20_mayRows_L0
          rw [ix 0 (by omega), bS]
          by_cases c1 : z.At.getD k 0 < 1
          · rw [dT c1, cT, bS, cT]; exact ⟨_, rfl, rfl⟩
          · rw [dF c1, cF]
            by_cases c2 : z.At.getD k 0 > z.W.S.N
            · rw [dT c2, cT, bS, cT]; exact ⟨_, rfl, rfl⟩
            · rw [dF c2, cF, ix [] hkl, bS]
              by_cases c3 : (z.L.getD k []).length = n
              · obtain ⟨bb, eb, hbb⟩ := below_ok (p := z.W.S.P) (l := z.L.getD k []) (most := ((t + 1 : Nat) : Int))
                rw [qF (by rw [v.N]; omega), cF, addI_some (by rw [et]; omega) (by rw [et]; omega), bS, et, eb, bS]
                cases bb with
                | false => rw [nF, bS, cT]; exact ⟨_, rfl, rfl⟩
                | true =>
                  have hbb := hbb rfl
                  rw [nT, bS, cF, hmx, ckN_some (by omega), bS, Nat.sub_zero]
                  obtain ⟨o2, e2, ho2⟩ := rgO_inv (body := fun k2 (st : Unit) => privitylaw20_mayRows_L1 z k k2) (fun q _ => ∀ i, i < q → ((z.L.getD k []).getD i []).length = t + 1) (fun r => r = false) (rem := n) (k := 0) (s := ()) (fun i hi => by omega) (fun q _ _ hq h2 => by
                    unfold privitylaw20_mayRows_L1
                    rw [ix [] hkl, bS, ix [] (by omega), bS, addI_some (by rw [et]; omega) (by rw [et]; omega), bS, et]
                    by_cases c4 : ((z.L.getD k []).getD q []).length = t + 1
                    · rw [qF (by omega), cF]
                      refine ⟨_, rfl, fun i hi => ?_⟩
                      by_cases c5 : i < q
                      · exact h2 i c5
                      · have : i = q := by omega
                        rw [this]; exact c4
                    · rw [qT (by omega), cT]; exact ⟨_, rfl, rfl⟩)
                  rw [e2, bS]
                  cases o2 with
                  | fin r => rw [oF]; exact ⟨_, rfl, ho2⟩
                  | go _ =>
                    rw [oG]
                    refine ⟨_, rfl, fun q hq => ?_⟩
                    by_cases c6 : q < k
                    · exact h q c6
                    · have : q = k := by omega
                      subst this
                      refine ⟨⟨by omega, by have := v.N; omega⟩, c3, fun i hi => ⟨ho2 i (by omega), (hbb i (by omega)).2⟩⟩
              · rw [qT (by rw [v.N]; omega), cT, bS, cT]; exact ⟨_, rfl, rfl⟩)
        rw [e1, bS]
        cases o1 with
        | fin r => rw [oF]; exact ⟨_, rfl, fun h => by rw [show r = false from ho] at h; cases h⟩
        | go _ =>
          rw [oG]
          exact ⟨_, rfl, fun _ => ⟨n, t, ⟨v, hv⟩, by omega, g2, fun k hk => ho k (by omega)⟩⟩
      · rw [qT (by omega), bS, cT]; exact ⟨_, rfl, fun h => by cases h⟩
theorem rgO_go' {R : Type} {body : Nat → Unit → Option (Out Unit R)} : ∀ {n k : Nat}, (∀ j, k ≤ j → j < k + n → body j () = some (.go ())) → rgO body n k () = some (.go ())
  | 0, _, _ => rfl
  | n + 1, k, h => by
    simp only [rgO, h k (Nat.le_refl k) (by omega)]
    exact rgO_go' fun j h1 h2 => h j (by omega) (by omega)
theorem words_refl (a : List Nat) : privityref14_Words a a = some true := by
  unfold privityref14_Words
  rw [qF rfl, cF, rgO_go' (fun j _ hj => by
    unfold privityref14_Words_L0
    rw [ix 0 (show j < a.length by omega), bS, bS, qF rfl, cF]), bS, oG]
theorem lists_refl (a : List (List Nat)) : privityref14_Lists a a = some true := by
  unfold privityref14_Lists
  rw [qF rfl, cF, rgO_go' (fun j _ hj => by
    unfold privityref14_Lists_L0
    rw [ix [] (show j < a.length by omega), bS, bS, words_refl, bS, nT, cF]), bS, oG]
theorem views_refl (a : List T_api_Event) : privityref14_Views a a = some true := by
  unfold privityref14_Views
  rw [qF rfl, cF, rgO_go' (fun j _ hj => by
    unfold privityref14_Views_L0
    rw [ix default (show j < a.length by omega), bS, bS, qF rfl, cF, qF rfl, cF, words_refl, bS, nT, cF]), bS, oG]
theorem aw20 : privitylaw20_awake = some true := by decide +kernel
def netOf (w : T_api_Scenario) (n : Nat) : T_network_Net := ⟨w, 0, List.replicate n [], List.replicate n ()⟩
theorem netOf_views {w : T_api_Scenario} {n : Nat} : (netOf w n).zviews.length = n ∧ ∀ j, j < n → ((netOf w n).zviews.getD j []) = [] := ⟨by simp [netOf], fun j hj => by simp [netOf, List.getD_eq_getElem?_getD, hj]⟩
theorem nets20_full {w : T_api_Scenario} {n t : Nat} (v : Va w n t) (hv : privityref12_ValidScenario w = some true) : ∃ zt, privitylaw20_nets w = some (.inr (.inr (.inr (netOf w n, ⟨w, 0, List.replicate n [], zt⟩)))) := by
  obtain ⟨zt, e⟩ := refNew_full v hv
  unfold privitylaw20_nets
  rw [new_ok v, bS, sR, e, bS, sR]
  exact ⟨zt, rfl⟩
theorem view_ok {net : T_network_Net} {i : Nat} (hi : i < net.zviews.length) (hi2 : net.zviews.length ≤ 1000) (hb : (net.zviews.getD i []).length ≤ 1000) : network_Net_View net ((i + 1 : Nat) : Int) = some (net.zviews.getD i []) := by
  unfold network_Net_View
  have e : ((i + 1 : Nat) : Int) - 1 = (i : Int) := by omega
  rw [subI_some (by omega) (by omega), bS, e, idx_getD [] (by omega) (by omega), bS, Int.toNat_natCast, appO_some (by simp only [List.length_nil]; omega) (by simp only [List.length_nil]; omega), bS, List.nil_append]
/-- the same views, the same rounds -/
theorem views20_ok {w : T_api_Scenario} {n : Nat} (hN : w.S.N = n) (h13 : n ≤ 13) {r : Int} {views : List (List T_api_Event)} {zt zt' : List Unit} (h1 : views.length = n) (h2 : ∀ j, j < n → (views.getD j []).length ≤ 1000) : privitylaw20_views ⟨w, r, views, zt⟩ ⟨w, r, views, zt'⟩ w.S = some true := by
  have hm : max 1 (w.S.N + 1).toNat = n + 1 := by rw [hN]; omega
  unfold privitylaw20_views
  rw [hm, ckN_some (by omega), bS, Nat.add_sub_cancel, rgO_go' (fun j1 hj1 hj2 => by
    obtain ⟨j, rfl⟩ : ∃ j, j1 = j + 1 := ⟨j1 - 1, by omega⟩
    have hj : j < n := by omega
    unfold privitylaw20_views_L0
    rw [refView_eq (net := ⟨w, r, views, zt⟩) rfl, view_ok (net := ⟨w, r, views, zt⟩) (by show j < views.length; omega) (by show views.length ≤ 1000; omega) (h2 j hj), bS, bS, views_refl, bS, nT, cF]), bS, oG]
  unfold network_Net_Rounds privityref14_Net_Rounds
  rw [bS, bS, eT rfl]
theorem law_Rows (z : T_privitylaw20_AskRows) (hK : ∀ x ∈ z.W.Deviations, x.K < 18446744073709551616) : privitylaw20_ReconstructRows z = some true := by
  unfold privitylaw20_ReconstructRows
  obtain ⟨b, e, hb⟩ := mayRows_ok hK
  rw [e, bS]
  cases b with
  | false => rw [nF, cT, aw20, bS]
  | true =>
    obtain ⟨n, t, ⟨v, hv⟩, hL, hA, hz⟩ := hb rfl
    have s := v.toSc
    have hp := s.sup
    haveI : NeZero z.W.S.P := hp.ne
    haveI : NeZero (netOf z.W n).zw.S.P := hp.ne
    have h13 := s.n13
    have h3 := s.t3
    obtain ⟨zt, em⟩ := nets20_full v hv
    rw [nT, cF, em, bS, sR, sR, sR]
    have key : ∃ rows r views, reconstruct_Rows (netOf z.W n) z.L z.At = some (rows, r, views) ∧ privityref20_Rows ⟨z.W, 0, List.replicate n [], zt⟩ z.L z.At = some (rows, r, views) ∧ rows.length = n ∧ views.length = n ∧ ∀ j, j < n → (views.getD j []).length ≤ 1000 := by
      by_cases hl0 : z.L.length = 0
      · have eN : (netOf z.W n).zw.S.N = (n : Int) := s.N
        refine ⟨List.replicate n [], 0, List.replicate n [], ?_, ?_, by simp, by simp, fun j hj => by simp [List.getD_eq_getElem?_getD, hj]⟩
        · unfold reconstruct_Rows network_Net_Scenario
          rw [bS, eN, mkO_some (by omega) (by omega) (by omega) (by omega), bS, eT (by omega), cT, Int.toNat_natCast]; rfl
        · unfold privityref20_Rows privityref14_Net_Scenario
          simp only
          rw [bS, s.N, mkO_some (by omega) (by omega) (by omega) (by omega), bS, eT (by omega), cT, Int.toNat_natCast]
      · obtain ⟨rows, views, er, er', c1, c2, c3⟩ := refRows_ok (net := netOf z.W n) (mn := ⟨z.W, 0, List.replicate n [], zt⟩) rfl rfl rfl (m := z.L.length) s (by omega) rfl (by omega) (fun k hk => by
            obtain ⟨_, h2, h4⟩ := hz k hk
            exact ⟨h2, fun i hi => ⟨by rw [(h4 i hi).1]; omega, (h4 i hi).2⟩⟩) hA (a := fun k => (z.At.getD k 0).toNat - 1) (fun k hk => by
            obtain ⟨⟨h1, h2⟩, _⟩ := hz k hk
            exact ⟨by omega, by omega⟩) netOf_views.1 (fun j hj => by rw [netOf_views.2 j hj]; simp) ⟨by show (0 : Int) ≤ 0; omega, by show (0 : Int) ≤ 1000; omega⟩
        refine ⟨rows, _, views, er, er', c1, c2, fun j hj => ?_⟩
        have := c3 j hj
        rw [netOf_views.2 j hj, List.length_nil] at this
        omega
    obtain ⟨rows, r, views, er, er', c1, c2, c3⟩ := key
    rw [er, bS]
    simp only
    rw [er', bS]
    simp only
    rw [qF rfl, cF]
    have hvw := views20_ok (w := z.W) (r := r) (views := views) (zt := (netOf z.W n).ztapes) (zt' := zt) s.N h13 c2 c3
    have hvw' : privitylaw20_views ⟨(netOf z.W n).zw, r, views, (netOf z.W n).ztapes⟩ ⟨z.W, r, views, zt⟩ z.W.S = some true := hvw
    rw [hvw', bS, nT, bS, cF, rgO_go' (fun j _ hj => by
      unfold privitylaw20_ReconstructRows_L0
      simp only
      rw [ix [] (show j < rows.length by omega), bS, bS, lists_refl, bS, nT, cF]), bS, oG, aw20, bS]
end Pu
