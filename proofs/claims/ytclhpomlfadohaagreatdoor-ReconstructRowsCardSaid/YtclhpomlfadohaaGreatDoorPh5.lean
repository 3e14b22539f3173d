/- Plain laws of chapter 20: opening rows as the reference does. -/
import Derived.Test.YtclhpomlfadohaaGreatDoorPh3
import Derived.Test.YtclhpomlfadohaaGreatDoorPh4
set_option linter.unusedVariables false
namespace Pu
open Gw Gl Sp Lean.Grind
theorem said_ok2 {net : T_network_Net} {n t L m : Nat} (s : Sc net.zw n t) {lists : List (List Nat)} (h1 : lists.length = n) (h2 : ∀ i, i < n → Lt net.zw.S.P (lists.getD i []) ∧ (lists.getD i []).length ≤ L) (hL : L ≤ 100) (hm : m ≤ 100) (hv : net.zviews.length = n) (hb : ∀ j, j < n → (net.zviews.getD j []).length ≤ 500) (hr : 0 ≤ net.zround ∧ net.zround ≤ 1000) :
    ∃ all heard views, reconstruct_said net lists ((m : Nat) : Int) = some (heard, net.zround + 1, views) ∧ Sq net.zw.S.P n L all ∧ (∀ i, i < n → (((i : Nat) : Int) + 1) ∉ net.zw.Corrupt → ∀ j, j < n → (all.getD i []).getD j [] = lists.getD i []) ∧
      heard.length = n ∧ (∀ j, j < n → (heard.getD j []).length = m ∧ ∀ k, k < m → (heard.getD j []).getD k [] = wd all n j k) ∧ views.length = n ∧ (∀ j, j < n → views.getD j [] = net.zviews.getD j [] ++ evs net.zround all j n) ∧
      ∃ out inn, out.length = n ∧ (∀ i, i < n → out.getD i [] = List.replicate n (lists.getD i [])) ∧ Sq net.zw.S.P n L out ∧ network_Net_Send net out = some (inn, net.zround + 1, views) ∧ inn.length = n ∧ ∀ j, j < n → (inn.getD j []).length = n ∧ ∀ i, i < n → (inn.getD j []).getD i [] = (all.getD i []).getD j [] := by
  have h13 := s.n13
  have hp := s.sup
  unfold reconstruct_said
  rw [h1, mkO_some (by omega) (by omega) (by omega) (by omega), bS, Int.toNat_natCast, Nat.sub_zero]
  obtain ⟨out, e1, o1, o2, _⟩ := rgS_inv (body := fun k1 (st : (List (List (List Nat)))) => reconstruct_said_L0 lists k1 st) (rem := n) (k := 0) (s := List.replicate n [])
    (fun k l => l.length = n ∧ (∀ i, i < k → l.getD i [] = List.replicate n (lists.getD i [])) ∧ ∀ i, k ≤ i → l.getD i [] = []) ⟨by simp, fun i hi => by omega, fun i _ => by by_cases g : i < n <;> simp [List.getD_eq_getElem?_getD, g]⟩ (fun k l _ hk ⟨g1, g2, g3⟩ => by
      have hkn : k < n := by omega
      unfold reconstruct_said_L0
      rw [ix [] (by omega), bS, h1, Nat.sub_zero]
      obtain ⟨l', e', q1, q2, q3⟩ := rgS_inv (body := fun k2 (st : (List (List (List Nat)))) => reconstruct_said_L1 k (lists.getD k []) k2 st) (rem := n) (k := 0) (s := l)
        (fun q l' => l'.length = n ∧ l'.getD k [] = List.replicate q (lists.getD k []) ∧ ∀ i, i ≠ k → l'.getD i [] = l.getD i []) ⟨g1, by rw [g3 k (Nat.le_refl k)]; rfl, fun _ _ => rfl⟩ (fun q l' _ hq ⟨q1, q2, q3⟩ => by
          unfold reconstruct_said_L1
          rw [ix [] (by omega), bS, q2, appO_some (by simp; omega) (by simp; omega), bS, bS]
          refine ⟨_, rfl, by rw [List.length_set]; exact q1, by rw [getD_set (by omega), if_pos rfl, ← List.replicate_succ'], fun i hi => by rw [getD_set (by omega), if_neg (fun e => hi e.symm)]; exact q3 i hi⟩)
      rw [e', bS]
      rw [Nat.zero_add] at q2
      refine ⟨_, rfl, q1, fun i hi => ?_, fun i hi => ?_⟩
      · by_cases g : i = k
        · subst g; exact q2
        · rw [q3 i g]; exact g2 i (by omega)
      · rw [q3 i (by omega)]; exact g3 i (by omega))
  rw [Nat.zero_add] at o2
  have sq : Sq net.zw.S.P n L out := ⟨o1, fun i hi => by rw [o2 i hi]; simp, fun i hi j hj => by
    have : (out.getD i []).getD j [] = lists.getD i [] := by rw [o2 i hi]; simp [List.getD_eq_getElem?_getD, hj]
    rw [this]; exact h2 i hi⟩
  obtain ⟨all, inn, views, _, es, ⟨s1, _⟩, s2, s3, s4, s5, s6⟩ := send_ok s sq hL hv hb hr
  rw [e1, bS, es, bS]
  simp only
  rw [s3, mkO_some (by omega) (by omega) (by omega) (by omega), bS, Int.toNat_natCast, Nat.sub_zero]
  obtain ⟨heard, e2, t1, t2, _⟩ := rgS_inv (body := fun k3 (st : (List (List (List Nat)))) => reconstruct_said_L2 ((m : Nat) : Int) (inn, net.zround + 1, views) k3 st) (rem := n) (k := 0) (s := List.replicate n [])
    (fun j l => l.length = n ∧ (∀ i, i < j → (l.getD i []).length = m ∧ ∀ k, k < m → (l.getD i []).getD k [] = wd all n i k) ∧ True) ⟨by simp, fun i hi => by omega, trivial⟩ (fun j l _ hj ⟨t1, t2, _⟩ => by
      have hjn : j < n := by omega
      obtain ⟨i1, i2⟩ := s4 j hjn
      unfold reconstruct_said_L2
      rw [mkO_some (by omega) (by omega) (by omega) (by omega), bS, Int.toNat_natCast, ix [] (by omega), bS, bS]
      simp only
      rw [ix [] (by omega), bS, i1, Nat.sub_zero]
      obtain ⟨l', e', q1, q2, q3, q4⟩ := rgS_inv (body := fun k4 (st : (List (List (List Nat)))) => reconstruct_said_L3 ((m : Nat) : Int) j (inn.getD j []) k4 st) (rem := n) (k := 0) (s := l.set j (List.replicate m []))
        (fun i l' => l'.length = n ∧ (l'.getD j []).length = m ∧ (∀ k, k < m → (l'.getD j []).getD k [] = wd all i j k) ∧ ∀ q, q ≠ j → l'.getD q [] = l.getD q []) ⟨by rw [List.length_set]; exact t1, by rw [getD_set (by omega), if_pos rfl]; simp, fun k hk => by rw [getD_set (by omega), if_pos rfl]; simp [wd, List.getD_eq_getElem?_getD, hk], fun q hq => by rw [getD_set (by omega), if_neg (fun e => hq e.symm)]⟩ (fun i l' _ hi ⟨q1, q2, q3, q4⟩ => by
          have hin : i < n := by omega
          unfold reconstruct_said_L3
          rw [ix [] (by omega), bS, i2 i hin]
          obtain ⟨r, er, r1, r2⟩ := resize_ok (l := (all.getD i []).getD j []) (m := m) (by omega)
          rw [er, bS, r1, Nat.sub_zero]
          obtain ⟨l2, e2, u1, u2, u3, u4⟩ := rgS_inv (body := fun k5 (st : (List (List (List Nat)))) => reconstruct_said_L4 j r k5 st) (rem := m) (k := 0) (s := l')
            (fun k l2 => l2.length = n ∧ (l2.getD j []).length = m ∧ (∀ q, q < m → (l2.getD j []).getD q [] = if q < k then wd all i j q ++ [r.getD q 0] else wd all i j q) ∧ ∀ q, q ≠ j → l2.getD q [] = l.getD q []) ⟨q1, q2, fun q hq => by rw [if_neg (by omega)]; exact q3 q hq, q4⟩ (fun k l2 _ hk ⟨u1, u2, u3, u4⟩ => by
              have hkm : k < m := by omega
              unfold reconstruct_said_L4
              have hwl := wd_len (all := all) (n := i) (j := j) (k := k)
              rw [ix 0 (by omega), bS, ix [] (by omega), bS, ix [] (by omega), bS, u3 k hkm, if_neg (by omega), appO_some (by rw [hwl]; simp; omega) (by rw [hwl]; simp; omega), bS, bS, bS]
              refine ⟨_, rfl, by rw [List.length_set]; exact u1, by rw [getD_set (by omega), if_pos rfl, List.length_set]; exact u2, fun q hq => ?_, fun q hq => by rw [getD_set (by omega), if_neg (fun e => hq e.symm)]; exact u4 q hq⟩
              rw [getD_set (by omega), if_pos rfl, getD_set (by omega)]
              by_cases g : k = q
              · subst g; rw [if_pos rfl, if_pos (by omega)]
              · rw [if_neg g, u3 q hq]
                by_cases g2 : q < k
                · rw [if_pos g2, if_pos (by omega)]
                · rw [if_neg g2, if_neg (by omega)])
          rw [e2, bS]
          refine ⟨_, rfl, u1, u2, fun k hk => ?_, u4⟩
          rw [u3 k hk, if_pos (by omega), r2 k hk]
          unfold wd
          rw [List.range_succ, List.map_append]; rfl)
      rw [e', bS]
      rw [Nat.zero_add] at q3
      refine ⟨_, rfl, q1, fun i hi => ?_, trivial⟩
      by_cases g : i = j
      · subst g; exact ⟨q2, q3⟩
      · rw [q4 i g]; exact t2 i (by omega))
  rw [Nat.zero_add] at t2
  rw [e2, bS]
  refine ⟨all, heard, views, rfl, s1, fun i hi hc j hj => ?_, t1, t2, s5, s6, out, inn, o1, fun i hi => o2 i hi, sq, es, s3, s4⟩
  rw [s2 i hi hc, o2 i hi]; simp [List.getD_eq_getElem?_getD, hj]
theorem conc0 {a b : List Nat} (h : a.length + b.length ≤ 1000) : slices_Concat_Luint64_uint64_L0 [a, b] 0 ((0 : Nat) : Int) = some (a.length : Int) := by
  have g0 : [a, b].getD 0 [] = a := rfl
  have z : ((0 : Nat) : Int) + (a.length : Int) = (a.length : Int) := by omega
  unfold slices_Concat_Luint64_uint64_L0
  rw [ix [] (by simp), bS, g0, addI_some (by omega) (by omega), bS, z, dF (by omega), cF]
theorem conc1 {a b : List Nat} (h : a.length + b.length ≤ 1000) : slices_Concat_Luint64_uint64_L0 [a, b] 1 (a.length : Int) = some ((a.length + b.length : Nat) : Int) := by
  have g0 : [a, b].getD 1 [] = b := rfl
  have z : (a.length : Int) + (b.length : Int) = ((a.length + b.length : Nat) : Int) := by omega
  unfold slices_Concat_Luint64_uint64_L0
  rw [ix [] (by simp), bS, g0, addI_some (by omega) (by omega), bS, z, dF (by omega), cF]
theorem grow_nil {m : Nat} (h : m ≤ 1000) : slices_Grow_Luint64_uint64_nil ((m : Nat) : Int) = some [] := by
  unfold slices_Grow_Luint64_uint64_nil
  rw [dF (by omega), cF, subI_some (by omega) (by omega), bS]
  by_cases g : 0 < m
  · rw [dT (by omega), cT, mkO_some (by omega) (by omega) (by omega) (by omega), bS, cutO_some (by omega) (by omega) (by omega), bS, Nat.sub_self, List.take_zero]
  · rw [dF (by omega), cF]
theorem conc2 {a b : List Nat} (h : a.length + b.length ≤ 1000) : slices_Concat_Luint64_uint64_L1 [a, b] 0 [] = some a := by
  have g0 : [a, b].getD 0 [] = a := rfl
  unfold slices_Concat_Luint64_uint64_L1
  rw [ix [] (by simp), bS, g0, appO_some (by simp only [List.length_nil]; omega) (by simp only [List.length_nil]; omega), bS, List.nil_append]
theorem conc3 {a b : List Nat} (h : a.length + b.length ≤ 1000) : slices_Concat_Luint64_uint64_L1 [a, b] 1 a = some (a ++ b) := by
  have g0 : [a, b].getD 1 [] = b := rfl
  unfold slices_Concat_Luint64_uint64_L1
  rw [ix [] (by simp), bS, g0, appO_some (by omega) (by omega), bS]
theorem rgS2 {S : Type} {body : Nat → S → Option S} {a b c : S} (h0 : body 0 a = some b) (h1 : body 1 b = some c) : rgS body 2 0 a = some c := by
  simp only [rgS, h0, h1]
theorem concat2_ok {a b : List Nat} (h : a.length + b.length ≤ 1000) : slices_Concat_Luint64_uint64 [a, b] = some (a ++ b) := by
  have e0 : [a, b].length - 0 = 2 := rfl
  unfold slices_Concat_Luint64_uint64
  rw [e0, rgS2 (conc0 h) (conc1 h), bS, grow_nil h, bS, rgS2 (conc2 h) (conc3 h), bS]
/-- what opening rows does -/
theorem rows_ok2 {net : T_network_Net} {n t m : Nat} [NeZero net.zw.S.P] (s : Sc net.zw n t) {w : List (List (List Nat))} {ats : List Int} (hm : m ≤ 20) (h1 : w.length = m) (hm0 : 0 < m) (h2 : ∀ k, k < m → (w.getD k []).length = n ∧ ∀ i, i < n → ((w.getD k []).getD i []).length ≤ 100 ∧ Lt net.zw.S.P ((w.getD k []).getD i []))
    (h3 : ats.length = m) {a : Nat → Nat} (h4 : ∀ k, k < m → ats.getD k 0 = ((a k + 1 : Nat) : Int) ∧ a k < n) (hv : net.zviews.length = n) (hb : ∀ j, j < n → (net.zviews.getD j []).length ≤ 500) (hr : 0 ≤ net.zround ∧ net.zround ≤ 1000) :
    ∃ (lists : List (List Nat)) (all : List (List (List Nat))) (rows : List (List (List Nat))) (views : List (List T_api_Event)), reconstruct_Rows net w ats = some (rows, net.zround + 1, views) ∧ (∀ i, i < n → (lists.getD i []).length = m ∧ ∀ k, k < m → (lists.getD i []).getD k 0 < net.zw.S.P ∧ o net.zw.S.P ((lists.getD i []).getD k 0) = evl (P net.zw.S.P ((w.getD k []).getD i [])) (o net.zw.S.P (a k + 1))) ∧ Sq net.zw.S.P n 20 all ∧
      (∀ i, i < n → (((i : Nat) : Int) + 1) ∉ net.zw.Corrupt → ∀ j, j < n → (all.getD i []).getD j [] = lists.getD i []) ∧ rows.length = n ∧ views.length = n ∧
      (∀ j, j < n → (rows.getD j []).length = m ∧ ∀ k, k < m → ∃ pts f at_ e, reconstruct_points (wd all n j k) = some pts ∧ reedsolomon_Decode net.zw.S.P pts net.zw.S.T net.zw.S.T = some (f, at_, e) ∧ Lt net.zw.S.P f ∧ f.length ≤ t + 1 ∧ (rows.getD j []).getD k [] = f ++ List.replicate (t + 1 - f.length) 0) ∧
      (∀ j, j < n → views.getD j [] = net.zviews.getD j [] ++ evs net.zround all j n) ∧ lists.length = n ∧
      ∃ out inn, out.length = n ∧ (∀ i, i < n → out.getD i [] = List.replicate n (lists.getD i [])) ∧ Sq net.zw.S.P n 20 out ∧ network_Net_Send net out = some (inn, net.zround + 1, views) ∧ inn.length = n ∧ ∀ j, j < n → (inn.getD j []).length = n ∧ ∀ i, i < n → (inn.getD j []).getD i [] = (all.getD i []).getD j [] := by
  have hp := s.sup
  have hlt := hp.lt
  have h13 := s.n13
  have h4' := s.n4
  have h3t := s.t3
  unfold reconstruct_Rows network_Net_Scenario
  rw [bS, s.N, mkO_some (by omega) (by omega) (by omega) (by omega), bS, Int.toNat_natCast, h1, eF (by omega), cF, mkO_some (by omega) (by omega) (by omega) (by omega), bS, Int.toNat_natCast, List.length_replicate, Nat.sub_zero]
  obtain ⟨lists, el, l1, l2, _⟩ := rgS_inv (body := fun k1 (st : (List (List Nat))) => reconstruct_Rows_L0 w ats net.zw k1 st) (rem := n) (k := 0) (s := List.replicate n ([] : List Nat))
    (fun i l => l.length = n ∧ (∀ i', i' < i → (l.getD i' []).length = m ∧ ∀ k, k < m → (l.getD i' []).getD k 0 < net.zw.S.P ∧ o net.zw.S.P ((l.getD i' []).getD k 0) = evl (P net.zw.S.P ((w.getD k []).getD i' [])) (o net.zw.S.P (a k + 1))) ∧ ∀ i', i ≤ i' → l.getD i' [] = [])
    ⟨by simp, fun i hi => by omega, fun i _ => by by_cases g : i < n <;> simp [List.getD_eq_getElem?_getD, g]⟩ (fun i l _ hi ⟨l1, l2, l3⟩ => by
      have hin : i < n := by omega
      unfold reconstruct_Rows_L0
      rw [Nat.sub_zero, h1]
      obtain ⟨r, er, r1, r2, r3, r4⟩ := rgS_inv (body := fun k2 (st : (List (List Nat))) => reconstruct_Rows_L1 w ats net.zw i k2 st) (rem := m) (k := 0) (s := l)
        (fun k r => r.length = n ∧ (r.getD i []).length = k ∧ (∀ q, q < k → (r.getD i []).getD q 0 < net.zw.S.P ∧ o net.zw.S.P ((r.getD i []).getD q 0) = evl (P net.zw.S.P ((w.getD q []).getD i [])) (o net.zw.S.P (a q + 1))) ∧ ∀ i', i' ≠ i → r.getD i' [] = l.getD i' [])
        ⟨l1, by rw [l3 i (Nat.le_refl i)]; rfl, fun q hq => by omega, fun _ _ => rfl⟩ (fun k r _ hk ⟨r1, r2, r3, r4⟩ => by
          have hkm : k < m := by omega
          obtain ⟨w1, w2⟩ := h2 k hkm
          obtain ⟨w3, w4⟩ := w2 i hin
          obtain ⟨a1, a2⟩ := h4 k hkm
          have hu : toU ((a k + 1 : Nat) : Int) = a k + 1 := by unfold toU; omega
          obtain ⟨y, ey, y1, y2⟩ := eval_ok hp (x := a k + 1) w4 (by omega) (by omega)
          unfold reconstruct_Rows_L1
          rw [ix [] (by omega), bS, ix [] (by omega), bS, ix [] (by omega), bS, ix 0 (by omega), bS, a1, bS, hu, ey, bS, appO_some (by rw [r2]; simp only [List.length_cons, List.length_nil]; omega) (by rw [r2]; simp only [List.length_cons, List.length_nil]; omega), bS, bS]
          refine ⟨_, rfl, by rw [List.length_set]; exact r1, ?_, fun q hq => ?_, fun i' hi' => ?_⟩
          · rw [getD_set (by omega), if_pos rfl, List.length_append, r2]; rfl
          · rw [getD_set (by omega), if_pos rfl]
            by_cases g : q < k
            · rw [getD_app_l (by omega)]; exact r3 q g
            · have : q = k := by omega
              subst this
              rw [getD_app_e r2.symm]
              exact ⟨y1, y2⟩
          · rw [getD_set (by omega), if_neg (fun e => hi' e.symm)]; exact r4 i' hi')
      rw [Nat.zero_add] at r2 r3
      rw [er, bS]
      refine ⟨_, rfl, r1, fun i' hi' => ?_, fun i' hi' => ?_⟩
      · by_cases g : i' = i
        · subst g; exact ⟨r2, r3⟩
        · rw [r4 i' g]; exact l2 i' (by omega)
      · rw [r4 i' (by omega)]; exact l3 i' (by omega))
  rw [Nat.zero_add] at l2
  obtain ⟨all, heard, views, es, a1, a2, a3, a4, a5, a6, ax⟩ := said_ok2 (L := 20) (m := m) s l1 (fun i hi => ⟨fun q hq => by have := l2 i hi; exact (this.2 q (by omega)).1, by rw [(l2 i hi).1]; exact hm⟩) (by omega) (by omega) hv hb hr
  rw [el, bS, es, bS]
  simp only
  rw [a3, Nat.sub_zero]
  obtain ⟨rows, e, b1, b2, _⟩ := rgS_inv (body := fun k3 (st : (List (List (List Nat)))) => reconstruct_Rows_L2 net.zw (heard, net.zround + 1, views) k3 st) (rem := n) (k := 0) (s := List.replicate n ([] : List (List Nat)))
    (fun j r => r.length = n ∧ (∀ j', j' < j → (r.getD j' []).length = m ∧ ∀ k, k < m → ∃ pts f at_ e, reconstruct_points (wd all n j' k) = some pts ∧ reedsolomon_Decode net.zw.S.P pts net.zw.S.T net.zw.S.T = some (f, at_, e) ∧ Lt net.zw.S.P f ∧ f.length ≤ t + 1 ∧ (r.getD j' []).getD k [] = f ++ List.replicate (t + 1 - f.length) 0) ∧ ∀ j', j ≤ j' → r.getD j' [] = [])
    ⟨by simp, fun i hi => by omega, fun i _ => by by_cases g : i < n <;> simp [List.getD_eq_getElem?_getD, g]⟩ (fun j r _ hj ⟨b1, b2, b3⟩ => by
      have hjn : j < n := by omega
      obtain ⟨c1, c2⟩ := a4 j hjn
      unfold reconstruct_Rows_L2
      simp only
      rw [ix [] (by omega), bS, c1, Nat.sub_zero]
      obtain ⟨q, eq, q1, q2, q3, q4⟩ := rgS_inv (body := fun k4 (st : (List (List (List Nat)))) => reconstruct_Rows_L3 net.zw j (heard.getD j []) k4 st) (rem := m) (k := 0) (s := r)
        (fun k q => q.length = n ∧ (q.getD j []).length = k ∧ (∀ k', k' < k → ∃ pts f at_ e, reconstruct_points (wd all n j k') = some pts ∧ reedsolomon_Decode net.zw.S.P pts net.zw.S.T net.zw.S.T = some (f, at_, e) ∧ Lt net.zw.S.P f ∧ f.length ≤ t + 1 ∧ (q.getD j []).getD k' [] = f ++ List.replicate (t + 1 - f.length) 0) ∧ ∀ j', j' ≠ j → q.getD j' [] = r.getD j' [])
        ⟨b1, by rw [b3 j (Nat.le_refl j)]; rfl, fun q hq => by omega, fun _ _ => rfl⟩ (fun k q _ hk ⟨q1, q2, q3, q4⟩ => by
          have hkm : k < m := by omega
          have hwl : (wd all n j k).length = n := wd_len
          have hwp : Lt net.zw.S.P (wd all n j k) := fun i hi => by
            rw [hwl] at hi
            rw [wd_get hi]
            exact (a1.w i hi j hjn).1.get hp.pos k
          obtain ⟨pts, ep, p1, p2⟩ := points_ok (w := wd all n j k) (by omega)
          have hP := pts_ok hp hwp (by omega) p1 p2
          obtain ⟨f, at_, e, ed, f1, f2, _, _⟩ := decode_ok (deg := t) (w := t) hp hP (by omega) (by omega)
          have et : ((t : Nat) : Int) + 1 = ((t + 1 : Nat) : Int) := by omega
          have ef : ((t + 1 : Nat) : Int) - (f.length : Int) = ((t + 1 - f.length : Nat) : Int) := by omega
          unfold reconstruct_Rows_L3
          rw [ix [] (by omega), bS, c2 k hkm, ep, bS, s.T, ed, bS, ix [] (by omega), bS, addI_some (by omega) (by omega), bS, et]
          simp only
          rw [subI_some (by omega) (by omega), bS, ef, mkO_some (by omega) (by omega) (by omega) (by omega), bS, Int.toNat_natCast, concat2_ok (by rw [List.length_replicate]; omega), bS, appO_some (by rw [q2]; simp only [List.length_cons, List.length_nil]; omega) (by rw [q2]; simp only [List.length_cons, List.length_nil]; omega), bS, bS]
          refine ⟨_, rfl, by rw [List.length_set]; exact q1, ?_, fun k' hk' => ?_, fun j' hj' => ?_⟩
          · rw [getD_set (by omega), if_pos rfl, List.length_append, q2]; rfl
          · rw [getD_set (by omega), if_pos rfl]
            by_cases g : k' < k
            · rw [getD_app_l (by omega)]; have := q3 k' g; rw [s.T] at this; exact this
            · have : k' = k := by omega
              subst this
              rw [getD_app_e q2.symm]
              exact ⟨pts, f, at_, e, ep, ed, f1, f2, rfl⟩
          · rw [getD_set (by omega), if_neg (fun e => hj' e.symm)]; exact q4 j' hj')
      rw [Nat.zero_add] at q2 q3
      rw [eq, bS]
      refine ⟨_, rfl, q1, fun j' hj' => ?_, fun j' hj' => ?_⟩
      · by_cases g : j' = j
        · subst g; exact ⟨q2, q3⟩
        · rw [q4 j' g]; exact b2 j' (by omega)
      · rw [q4 j' (by omega)]; exact b3 j' (by omega))
  rw [Nat.zero_add] at b2
  rw [e, bS]
  exact ⟨lists, all, rows, views, rfl, fun i hi => l2 i (by omega), a1, a2, b1, a5, fun j hj => b2 j (by omega), a6, l1, ax⟩
end Pu
