/- Plain laws of chapter 47: recovering rows as the reference does. -/
import Derived.Test.YtclhpomlfadohaaGreatDoorPd2
import Derived.Test.YtclhpomlfadohaaGreatDoorPh6
set_option linter.unusedVariables false
namespace Pu
open Gw Gl Sp Lean.Grind
/-- sharings as they are handed over -/
structure Shs (p n t : Nat) (l : List (List (List Nat))) : Prop where
  row : ∀ k, k < l.length → (l.getD k []).length = n
  el : ∀ k, k < l.length → ∀ i, i < n → ((l.getD k []).getD i []).length = t + 1 ∧ Lt p ((l.getD k []).getD i [])
theorem may47_ok {z : T_privitylaw47_Ask} (hK : ∀ x ∈ z.W.Deviations, x.K < 18446744073709551616) : ∃ b, privitylaw47_may z = some b ∧ (b = true → (∃ n t, Va z.W n t ∧ privityref12_ValidScenario z.W = some true) ∧ z.L.length ≤ 3 ∧ z.Spoil.length ≤ 20) := by
  unfold privitylaw47_may
  obtain ⟨b, e, hb⟩ := fair_ok (w := z.W) (lies := ((20 : Nat) : Int)) (words := ((20 : Nat) : Int)) hK (by omega) (by omega)
  rw [e, bS]
  cases b with
  | false => rw [cF]; exact ⟨_, rfl, fun h => by cases h⟩
  | true =>
    rw [cT]
    by_cases g : ((z.L.length : Nat) : Int) ≤ 3
    · rw [dT g, cT]
      refine ⟨_, rfl, fun h => ⟨hb rfl, by omega, ?_⟩⟩
      have := _root_.of_decide_eq_true h
      omega
    · rw [dF g, cF]; exact ⟨_, rfl, fun h => by cases h⟩
theorem who_ok {z : T_privitylaw47_Ask} {n : Nat} (hN : z.W.S.N = n) (h0 : 0 < n) (h13 : n ≤ 13) (hw : z.Who < 256) : privitylaw47_who z = some ((z.Who % n + 1 : Nat) : Int) ∧ z.Who % n < n := by
  have hm := Nat.mod_lt z.Who h0
  refine ⟨?_, hm⟩
  unfold privitylaw47_who
  have hu : toI ((z.Who : Nat) : Int) = z.Who := by unfold toI; omega
  have hr : remI ((z.Who : Nat) : Int) ((n : Nat) : Int) = some ((z.Who % n : Nat) : Int) := by
    unfold remI
    rw [if_neg (by omega), Int.tmod_eq_emod_of_nonneg (by omega)]; rfl
  rw [hu, bS, hN, hr, bS]
  generalize z.Who % n = q at *
  have e1 : (1 : Int) + (q : Int) = ((q + 1 : Nat) : Int) := by omega
  rw [addI_some (by omega) (by omega), bS, e1]
theorem shs_of {p n t m : Nat} {out : List (List (List Nat))} (hlen : out.length = m) (h : ∀ k, k < m → (out.getD k []).length = n ∧ (∀ i, i < n → ((out.getD k []).getD i []).length = t + 1 ∧ Lt p ((out.getD k []).getD i []))) : Shs p n t out :=
  ⟨fun k hk => (h k (by omega)).1, fun k hk => (h k (by omega)).2⟩
/-- what the parties send -/
theorem out_ok2 {w : T_api_Scenario} {n t w0 : Nat} [NeZero w.S.P] (s : Sc w n t) {l : List (List (List Nat))} (hl : Shs w.S.P n t l) (hm : l.length ≤ 3) (hw : w0 < n) :
    ∃ out, rgS (fun k1 (st : (List (List (List Nat)))) => recovery_RecoverRows_L0 ((w0 + 1 : Nat) : Int) l w k1 st) n 0 (List.replicate n []) = some out ∧ Sq w.S.P n 3 out ∧ (∀ i, i < n → ∀ j, j < n → j ≠ w0 → (out.getD i []).getD j [] = []) ∧
      (∀ i, i < n → i ≠ w0 → ((out.getD i []).getD w0 []).length = l.length ∧ ∀ k, k < l.length → o w.S.P (((out.getD i []).getD w0 []).getD k 0) = evl (P w.S.P ((l.getD k []).getD i [])) (o w.S.P (w0 + 1))) ∧ (out.getD w0 []).getD w0 [] = [] := by
  have hp := s.sup
  have hlt := hp.lt
  have h13 := s.n13
  have h3 := s.t3
  obtain ⟨out, e, o1, o2⟩ := rgS_inv (body := fun k1 (st : (List (List (List Nat)))) => recovery_RecoverRows_L0 ((w0 + 1 : Nat) : Int) l w k1 st) (rem := n) (k := 0) (s := List.replicate n [])
    (fun i out => out.length = n ∧ ∀ q, q < i → (out.getD q []).length = n ∧ (∀ j, j < n → j ≠ w0 → (out.getD q []).getD j [] = []) ∧ (Lt w.S.P ((out.getD q []).getD w0 []) ∧ ((out.getD q []).getD w0 []).length ≤ 3) ∧
      (q ≠ w0 → ((out.getD q []).getD w0 []).length = l.length ∧ ∀ k, k < l.length → o w.S.P (((out.getD q []).getD w0 []).getD k 0) = evl (P w.S.P ((l.getD k []).getD q [])) (o w.S.P (w0 + 1))) ∧ (q = w0 → (out.getD q []).getD w0 [] = [])) ⟨by simp, fun q hq => by omega⟩ (fun i out _ hi ⟨o1, o2⟩ => by
      have hin : i < n := by omega
      have hrep : ∀ j, j < n → (List.replicate n ([] : List Nat)).getD j [] = [] := fun j hj => by simp [List.getD_eq_getElem?_getD, hj]
      unfold recovery_RecoverRows_L0
      rw [s.N, mkO_some (by omega) (by omega) (by omega) (by omega), bS, Int.toNat_natCast, ix [] (by omega), bS, bS, addI_some (by omega) (by omega), bS]
      by_cases g : i = w0
      · rw [eT (by omega), cT]
        refine ⟨_, rfl, by rw [List.length_set]; exact o1, fun q hq => ?_⟩
        rw [getD_set (by omega)]
        by_cases g2 : i = q
        · rw [if_pos g2]
          refine ⟨by simp, fun j hj _ => hrep j hj, ?_, fun h => absurd (g2.symm.trans g) h, fun _ => hrep w0 hw⟩
          rw [hrep w0 hw]; exact ⟨fun i hi => by simp at hi, by simp⟩
        · rw [if_neg g2]; exact o2 q (by omega)
      · rw [eF (by omega), cF, Nat.sub_zero]
        obtain ⟨l7, e7, c1, c2, c3, c4, c5, c6⟩ := rgS_inv (body := fun k2 (st : (List (List (List Nat)))) => recovery_RecoverRows_L1 ((w0 + 1 : Nat) : Int) l w i k2 st) (rem := l.length) (k := 0) (s := out.set i (List.replicate n []))
          (fun k l7 => l7.length = n ∧ (l7.getD i []).length = n ∧ (∀ j, j < n → j ≠ w0 → (l7.getD i []).getD j [] = []) ∧ (Lt w.S.P ((l7.getD i []).getD w0 []) ∧ ((l7.getD i []).getD w0 []).length = k) ∧ (∀ q, q < k → o w.S.P (((l7.getD i []).getD w0 []).getD q 0) = evl (P w.S.P ((l.getD q []).getD i [])) (o w.S.P (w0 + 1))) ∧ ∀ q, q ≠ i → l7.getD q [] = out.getD q [])
          ⟨by rw [List.length_set]; exact o1, by rw [getD_set (by omega), if_pos rfl]; simp, fun j hj _ => by rw [getD_set (by omega), if_pos rfl]; exact hrep j hj, by rw [getD_set (by omega), if_pos rfl, hrep w0 hw]; exact ⟨fun i hi => by simp at hi, rfl⟩, fun q hq => by omega, fun q hq => by rw [getD_set (by omega), if_neg (fun e => hq e.symm)]⟩ (fun k l7 _ hk ⟨c1, c2, c3, ⟨c4, c4'⟩, c5, c6⟩ => by
            have hkl : k < l.length := by omega
            have hrow := hl.row k hkl
            obtain ⟨el1, el2⟩ := hl.el k hkl i hin
            have hu : toU ((w0 + 1 : Nat) : Int) = w0 + 1 := by unfold toU; omega
            have ew : ((w0 + 1 : Nat) : Int) - 1 = (w0 : Int) := by omega
            obtain ⟨y, ey, y1, y2⟩ := eval_ok hp el2 (x := w0 + 1) (by omega) (by omega)
            unfold recovery_RecoverRows_L1
            rw [ix [] hkl, bS, ix [] (by omega), bS, subI_some (by omega) (by omega), bS, ew, idx_getD [] (by omega) (by omega), bS, ix [] (by omega), bS, bS, hu, ey, bS]
            simp only [Int.toNat_natCast]
            rw [appO_some (by rw [c4']; simp only [List.length_cons, List.length_nil]; omega) (by rw [c4']; simp only [List.length_cons, List.length_nil]; omega), bS, bS, bS]
            refine ⟨_, rfl, by rw [List.length_set]; exact c1, by rw [getD_set (by omega), if_pos rfl, List.length_set]; exact c2, fun j hj hne => ?_, ?_, fun q hq => ?_, fun q hq => by rw [getD_set (by omega), if_neg (fun e => hq e.symm)]; exact c6 q hq⟩
            · rw [getD_set (by omega), if_pos rfl, getD_set (by omega), if_neg (fun e => hne e.symm)]; exact c3 j hj hne
            · rw [getD_set (by omega), if_pos rfl, getD_set (by omega), if_pos rfl]
              exact ⟨fun q hq => getD_app_lt (n := k) (fun q hq => c4 q (by omega)) c4' y1 q (by rw [List.length_append, c4'] at hq; exact hq), by rw [List.length_append, c4']; rfl⟩
            · rw [getD_set (by omega), if_pos rfl, getD_set (by omega), if_pos rfl]
              by_cases g2 : q < k
              · rw [getD_app_l (by omega)]; exact c5 q g2
              · have : q = k := by omega
                subst this
                rw [getD_app_e c4'.symm]; exact y2)
        rw [Nat.zero_add] at c4 c5
        rw [e7, bS]
        refine ⟨_, rfl, c1, fun q hq => ?_⟩
        by_cases g2 : q = i
        · subst g2; exact ⟨c2, c3, ⟨c4.1, by rw [c4.2]; exact hm⟩, fun _ => ⟨c4.2, c5⟩, fun h => absurd h g⟩
        · rw [c6 q g2]; exact o2 q (by omega))
  rw [Nat.zero_add] at o2
  refine ⟨out, e, ⟨o1, fun i hi => (o2 i hi).1, fun i hi j hj => ?_⟩, fun i hi => (o2 i hi).2.1, fun i hi => (o2 i hi).2.2.2.1, (o2 w0 hw).2.2.2.2 rfl⟩
  by_cases g : j = w0
  · subst g; exact (o2 i hi).2.2.1
  · rw [(o2 i hi).2.1 j hj g]; exact ⟨fun i hi => by simp at hi, by simp⟩
/-- the others, in order -/
def oth (w0 q : Nat) : Nat := if q < w0 then q else q + 1
theorem recpts_ok {p n w0 m k : Nat} {who : Int} (hwho : who = ((w0 + 1 : Nat) : Int)) {l : List (List (List Nat))} {x12 : List (List Nat)} (h13 : n ≤ 13) (hw : w0 < n) (hx : x12.length = n) (hm : l.length = m) (hm3 : m ≤ 3) (hk : k < m) :
    ∃ pts, rgS (fun k4 (st : (List T_api_Point)) => recovery_RecoverRows_L3 who l x12 k k4 st) n 0 ([] : List T_api_Point) = some pts ∧ pts.length = n - 1 ∧ ∀ q, q < n - 1 → pts.getD q default = ⟨oth w0 q + 1, (x12.getD (oth w0 q) []).getD k 0⟩ := by
  subst hwho
  obtain ⟨pts, e, p1, p2⟩ := rgS_inv (body := fun k4 (st : (List T_api_Point)) => recovery_RecoverRows_L3 ((w0 + 1 : Nat) : Int) l x12 k k4 st) (rem := n) (k := 0) (s := ([] : List T_api_Point))
    (fun i pts => pts.length = (if w0 < i then i - 1 else i) ∧ ∀ q, q < (if w0 < i then i - 1 else i) → pts.getD q default = ⟨oth w0 q + 1, (x12.getD (oth w0 q) []).getD k 0⟩) ⟨by simp, fun q hq => by simp at hq⟩ (fun i pts _ hi ⟨p1, p2⟩ => by
      have hin : i < n := by omega
      have hu : toU (((i : Nat) : Int) + 1) = i + 1 := by unfold toU; omega
      unfold recovery_RecoverRows_L3
      rw [addI_some (by omega) (by omega), bS]
      by_cases g : i = w0
      · rw [qF (by omega), cF]
        subst g
        rw [if_neg (by omega)] at p1 p2
        refine ⟨_, rfl, by rw [if_pos (by omega)]; omega, fun q hq => ?_⟩
        rw [if_pos (by omega)] at hq
        exact p2 q (by omega)
      · obtain ⟨r, er, r1, r2⟩ := resize_ok (l := x12.getD i []) (m := m) (by omega)
        have hpl : pts.length ≤ n := by rw [p1]; split <;> omega
        rw [qT (by omega), cT, bS, hu, ix [] (by omega), bS, hm, er, bS, ix 0 (by omega), bS, appO_some (by simp; omega) (by simp; omega), bS]
        have hlen : (if w0 < i + 1 then i + 1 - 1 else i + 1) = (if w0 < i then i - 1 else i) + 1 := by
          by_cases c : w0 < i
          · rw [if_pos (by omega), if_pos c]; omega
          · rw [if_neg (by omega), if_neg c]
        refine ⟨_, rfl, by rw [List.length_append, p1, hlen]; rfl, fun q hq => ?_⟩
        rw [hlen] at hq
        by_cases c : q < (if w0 < i then i - 1 else i)
        · rw [getD_app_l (by omega)]; exact p2 q c
        · have hq' : q = (if w0 < i then i - 1 else i) := by omega
          rw [getD_app_e (by omega)]
          have ho : oth w0 q = i := by
            unfold oth
            by_cases c2 : w0 < i
            · rw [if_pos c2] at hq'; rw [if_neg (by omega)]; omega
            · rw [if_neg c2] at hq'; rw [if_pos (by omega)]; omega
          rw [ho, r2 k hk])
  rw [Nat.zero_add, if_pos hw] at p1 p2
  exact ⟨pts, e, p1, p2⟩
theorem rec_Pts {p n w0 k : Nat} (hp : Sup p) (h13 : n ≤ 13) {x12 : List (List Nat)} {pts : List T_api_Point} (hx : ∀ i, i < n → Lt p (x12.getD i [])) (hw : w0 < n) (p1 : pts.length = n - 1) (p2 : ∀ q, q < n - 1 → pts.getD q default = ⟨oth w0 q + 1, (x12.getD (oth w0 q) []).getD k 0⟩) : Pts p pts := by
  have hlt := hp.lt
  have ho : ∀ q, q < n - 1 → oth w0 q < n := fun q hq => by unfold oth; split <;> omega
  refine ⟨fun i hi => ?_, fun i hi => ?_, fun i hi j hj => ?_⟩
  · rw [p2 i (by omega)]; have := ho i (by omega); show oth w0 i + 1 < p; omega
  · rw [p2 i (by omega)]; exact (hx _ (ho i (by omega))).get hp.pos k
  · rw [p2 i (by omega), p2 j (by omega)]
    show oth w0 j + 1 ≠ oth w0 i + 1
    unfold oth; split <;> split <;> omega
/-- recovering: an answer, one round, nobody else hears anything -/
theorem recover_ok2 {net : T_network_Net} {n t w0 : Nat} [NeZero net.zw.S.P] (s : Sc net.zw n t) {l : List (List (List Nat))} (hl : Shs net.zw.S.P n t l) (hm1 : 1 ≤ l.length) (hm : l.length ≤ 3) (hw : w0 < n) (hv : net.zviews.length = n) (hb : ∀ j, j < n → (net.zviews.getD j []).length ≤ 500) (hr : 0 ≤ net.zround ∧ net.zround ≤ 1000) :
    ∃ all rows views, recovery_RecoverRows net ((w0 + 1 : Nat) : Int) l = some (rows, net.zround + 1, views) ∧ rows.length = l.length ∧ views.length = n ∧ (∀ j, j < n → j ≠ w0 → views.getD j [] = net.zviews.getD j []) ∧ (∀ j, j < n → (views.getD j []).length ≤ (net.zviews.getD j []).length + n) ∧ Sq net.zw.S.P n 3 all ∧
      (∀ i, i < n → i ≠ w0 → (((i : Nat) : Int) + 1) ∉ net.zw.Corrupt → ((all.getD i []).getD w0 []).length = l.length ∧ ∀ k, k < l.length → o net.zw.S.P (((all.getD i []).getD w0 []).getD k 0) = evl (P net.zw.S.P ((l.getD k []).getD i [])) (o net.zw.S.P (w0 + 1))) ∧
      (∀ k, k < l.length → ∃ pts f at_ e r, Pts net.zw.S.P pts ∧ pts.length = n - 1 ∧ (∀ q, q < n - 1 → pts.getD q default = ⟨oth w0 q + 1, ((all.getD (oth w0 q) []).getD w0 []).getD k 0⟩) ∧ reedsolomon_Decode net.zw.S.P pts ((t : Nat) : Int) (((n - 2 - t) / 2 : Nat) : Int) = some (f, at_, e) ∧ rows.getD k [] = r ∧ r.length = t + 1 ∧ ∀ c, c < t + 1 → r.getD c 0 = if e = 0 then f.getD c 0 else 0) ∧
      ∃ out inn, Sq net.zw.S.P n 3 out ∧ (∀ i, i < n → ∀ j, j < n → j ≠ w0 → (out.getD i []).getD j [] = []) ∧ (∀ i, i < n → i ≠ w0 → ((out.getD i []).getD w0 []).length = l.length ∧ ∀ k, k < l.length → o net.zw.S.P (((out.getD i []).getD w0 []).getD k 0) = evl (P net.zw.S.P ((l.getD k []).getD i [])) (o net.zw.S.P (w0 + 1))) ∧ (out.getD w0 []).getD w0 [] = [] ∧ network_Net_Send net out = some (inn, net.zround + 1, views) ∧ inn.length = n ∧ (inn.getD w0 []).length = n ∧ ∀ i, i < n → (inn.getD w0 []).getD i [] = (all.getD i []).getD w0 [] := by
  have hp := s.sup
  have hlt := hp.lt
  have h13 := s.n13
  have h4 := s.n4
  have h3 := s.t3
  have ht1 := s.t1
  obtain ⟨out, eo, o1, o2, o3, o4⟩ := out_ok2 s hl hm hw
  obtain ⟨all, inn, views, _, es, ⟨s1, s1'⟩, s2, s3, s4, s5, s6⟩ := send_ok s o1 (by omega) hv hb hr
  have ew : ((w0 + 1 : Nat) : Int) - 1 = (w0 : Int) := by omega
  obtain ⟨i1, i2⟩ := s4 w0 hw
  unfold recovery_RecoverRows network_Net_Scenario
  rw [eF (by omega), cF, bS, s.N, mkO_some (by omega) (by omega) (by omega) (by omega), bS, Int.toNat_natCast, List.length_replicate, Nat.sub_zero, eo, bS, es, bS, subI_some (by omega) (by omega), bS, ew]
  simp only
  rw [idx_getD [] (by omega) (by omega), bS, Int.toNat_natCast, Nat.sub_zero]
  have e2 : (n : Int) - 2 = ((n - 2 : Nat) : Int) := by omega
  have e3 : ((n - 2 : Nat) : Int) - (t : Int) = ((n - 2 - t : Nat) : Int) := by omega
  have e4 : divI ((n - 2 - t : Nat) : Int) (2 : Int) = some (((n - 2 - t) / 2 : Nat) : Int) := divI_ok (b := 2) (by decide) (by omega)
  have e5 : (t : Int) + 1 = ((t + 1 : Nat) : Int) := by omega
  have hmx : max 0 net.zw.S.N.toNat = n := by rw [s.N]; simp
  obtain ⟨rows, er, r1, r2⟩ := rgS_inv (body := fun k3 (st : (List (List Nat))) => recovery_RecoverRows_L2 ((w0 + 1 : Nat) : Int) l net.zw (inn.getD w0 []) k3 st) (rem := l.length) (k := 0) (s := ([] : List (List Nat)))
    (fun m rows => rows.length = m ∧ ∀ k, k < m → ∃ pts f at_ e r, Pts net.zw.S.P pts ∧ pts.length = n - 1 ∧ (∀ q, q < n - 1 → pts.getD q default = ⟨oth w0 q + 1, ((all.getD (oth w0 q) []).getD w0 []).getD k 0⟩) ∧ reedsolomon_Decode net.zw.S.P pts ((t : Nat) : Int) (((n - 2 - t) / 2 : Nat) : Int) = some (f, at_, e) ∧ rows.getD k [] = r ∧ r.length = t + 1 ∧ ∀ c, c < t + 1 → r.getD c 0 = if e = 0 then f.getD c 0 else 0) ⟨rfl, fun k hk => by omega⟩ (fun k rows _ hk ⟨r1, r2⟩ => by
      have hkl : k < l.length := by omega
      obtain ⟨pts, ep, p1, p2⟩ := recpts_ok (p := net.zw.S.P) (n := n) (w0 := w0) (m := l.length) (k := k) rfl (l := l) (x12 := inn.getD w0 []) h13 hw i1 rfl hm hkl
      have hP := rec_Pts (n := n) hp h13 (fun i hi => by rw [i2 i hi]; exact (s1.w i hi w0 hw).1) hw p1 p2
      obtain ⟨f, at_, e, ed, f1, f2, f3, f4⟩ := decode_ok (deg := t) (w := (n - 2 - t) / 2) hp hP (by omega) (by omega)
      have hp2 : ∀ q, q < n - 1 → pts.getD q default = ⟨oth w0 q + 1, ((all.getD (oth w0 q) []).getD w0 []).getD k 0⟩ := fun q hq => by
        rw [p2 q hq, i2 _ (by unfold oth; split <;> omega)]
      unfold recovery_RecoverRows_L2
      rw [hmx, ckN_some (by omega), bS, Nat.sub_zero, ep, bS, s.N, subI_some (by omega) (by omega), bS, e2, s.T, subI_some (by omega) (by omega), bS, e3, e4, bS, ed, bS]
      simp only
      by_cases g : e = 0
      · obtain ⟨r, er, q1, q2⟩ := resize_ok (l := f) (m := t + 1) (by omega)
        rw [qF g, cF, addI_some (by omega) (by omega), bS, e5, er, bS, appO_some (by rw [r1]; simp; omega) (by rw [r1]; simp; omega), bS]
        refine ⟨_, rfl, by simp [r1], fun k' hk' => ?_⟩
        by_cases c : k' < k
        · rw [getD_app_l (by omega)]; exact r2 k' c
        · have : k' = k := by omega
          subst this
          rw [getD_app_e r1.symm]
          exact ⟨pts, f, at_, e, r, hP, p1, hp2, ed, rfl, q1, fun c hc => by rw [if_pos g]; exact q2 c hc⟩
      · obtain ⟨r, er, q1, q2⟩ := resize_ok (l := []) (m := t + 1) (by omega)
        rw [qT g, cT, addI_some (by omega) (by omega), bS, e5, er, bS, appO_some (by rw [r1]; simp; omega) (by rw [r1]; simp; omega), bS]
        refine ⟨_, rfl, by simp [r1], fun k' hk' => ?_⟩
        by_cases c : k' < k
        · rw [getD_app_l (by omega)]; exact r2 k' c
        · have : k' = k := by omega
          subst this
          rw [getD_app_e r1.symm]
          exact ⟨pts, f, at_, e, r, hP, p1, hp2, ed, rfl, q1, fun c hc => by rw [if_neg g, q2 c hc]; simp⟩)
  rw [Nat.zero_add] at r1 r2
  rw [er, bS]
  refine ⟨all, rows, views, rfl, r1, s5, fun j hj hne => ?_, fun j hj => ?_, s1, fun i hi hne hc => ?_, fun k hk => r2 k (by omega), out, inn, o1, o2, o3, o4, es, s3, i1, i2⟩
  · rw [s6 j hj]
    have : evs net.zround all j n = [] := by
      unfold evs
      rw [List.map_eq_nil_iff, List.filter_eq_nil_iff]
      intro i hi
      have hin : i < n := by simpa using hi
      have := s1' i hin j hj
      rw [o2 i hin j hj hne] at this
      simp at this
      simp [this]
    rw [this, List.append_nil]
  · rw [s6 j hj, List.length_append]
    have := evs_len (round := net.zround) (all := all) (j := j) (k := n)
    omega
  · rw [s2 i hi hc]; exact o3 i hi hne
theorem rec_dec {p : Nat} [NeZero p] (hp : Sup p) {pts : List T_api_Point} {deg w : Nat} (hP : Pts p pts) (hn : deg + 1 + 2 * w ≤ pts.length) (hl : pts.length ≤ 13) :
    ∃ f at_ e f' e', reedsolomon_Decode p pts ((deg : Nat) : Int) ((w : Nat) : Int) = some (f, at_, e) ∧ privityref08_Decode p pts ((deg : Nat) : Int) ((w : Nat) : Int) = some (f', at_, e') ∧ f'.length ≤ deg + 1 ∧ ∀ i, (if e = 0 then f.getD i 0 else 0) = f'.getD i 0 := by
  obtain ⟨f, at_, e, ed, _, _, hc⟩ := decode_full (deg := deg) (w := w) hp hP hn hl
  obtain ⟨g, at2, e2, f', e', ed2, ed3, _, _, _, g4, g5, _⟩ := dec_eq (deg := deg) (w := w) hp hP hn hl
  rw [ed] at ed2
  obtain ⟨rfl, h2⟩ := Prod.mk.inj (Option.some.inj ed2)
  obtain ⟨rfl, rfl⟩ := Prod.mk.inj h2
  refine ⟨f, at_, e, f', e', ed, ed3, g4, fun i => ?_⟩
  rw [← g5 i]
  rcases hc with ⟨h, _⟩ | ⟨h, h2, _⟩
  · rw [if_pos h]
  · rw [if_neg h, h2]; rfl
set_option maxHeartbeats 2000000 in
theorem refRec_ok {net : T_network_Net} {mn : T_privityref14_Net} (hz : mn.zw = net.zw) (hzr : mn.zround = net.zround) (hzv : mn.zviews = net.zviews) {n t w0 : Nat} [NeZero net.zw.S.P] (s : Sc net.zw n t) {l : List (List (List Nat))} (hl : Shs net.zw.S.P n t l) (hm1 : 1 ≤ l.length) (hm : l.length ≤ 3) (hw : w0 < n) (hv : net.zviews.length = n) (hb : ∀ j, j < n → (net.zviews.getD j []).length ≤ 500) (hr : 0 ≤ net.zround ∧ net.zround ≤ 1000) :
    ∃ rows views, recovery_RecoverRows net ((w0 + 1 : Nat) : Int) l = some (rows, net.zround + 1, views) ∧ privityref47_RecoverRows mn ((w0 + 1 : Nat) : Int) l = some (rows, net.zround + 1, views) ∧ views.length = n ∧ ∀ j, j < n → (views.getD j []).length ≤ (net.zviews.getD j []).length + n := by
  have hp := s.sup
  have hlt := hp.lt
  have h13 := s.n13
  have h4 := s.n4
  have h3 := s.t3
  have ht1 := s.t1
  obtain ⟨all, rows, views, er, r1, v1, _, v3, s1, _, r2, out, inn, o1, o2, o3, o4, es, i0, i1, i2⟩ := recover_ok2 s hl hm1 hm hw hv hb hr
  refine ⟨rows, views, er, ?_, v1, v3⟩
  have hmx : max 0 ((n : Nat) : Int).toNat = n := by simp
  have eN : mn.zw.S.N = (n : Int) := by rw [hz]; exact s.N
  have eN' : net.zw.S.N = (n : Int) := s.N
  have eT' : net.zw.S.T = (t : Int) := s.T
  have hu : toU ((w0 + 1 : Nat) : Int) = w0 + 1 := by unfold toU; omega
  have ew : ((w0 + 1 : Nat) : Int) - 1 = (w0 : Int) := by omega
  have hrep : ∀ j, j < n → (List.replicate n ([] : List Nat)).getD j [] = [] := fun j hj => by simp [List.getD_eq_getElem?_getD, hj]
  unfold privityref47_RecoverRows privityref14_Net_Scenario
  rw [bS, eF (by omega), cF, eN, hmx, ckN_some (by omega), bS, Nat.sub_zero, hz]
  obtain ⟨out', eo, q1, q2⟩ := rgS_inv (body := fun k1 (st : (List (List (List Nat)))) => privityref47_RecoverRows_L0 ((w0 + 1 : Nat) : Int) l net.zw k1 st) (rem := n) (k := 0) (s := ([] : List (List (List Nat)))) (fun i o' => o'.length = i ∧ ∀ q, q < i → o'.getD q [] = out.getD q []) ⟨rfl, fun q hq => by omega⟩ (fun i o' _ hi ⟨q1, q2⟩ => by
    have hin : i < n := by omega
    have hro := o1.row i hin
    unfold privityref47_RecoverRows_L0
    rw [eN', mkO_some (by omega) (by omega) (by omega) (by omega), bS, Int.toNat_natCast, addI_some (by omega) (by omega), bS]
    have fin : ∀ row : List (List Nat), row = out.getD i [] → (o' ++ [row]).length = i + 1 ∧ ∀ q, q < i + 1 → (o' ++ [row]).getD q [] = out.getD q [] := fun row hrow => ⟨by simp [q1], fun q hq => by
      by_cases c : q < i
      · rw [getD_app_l (by omega)]; exact q2 q c
      · have : q = i := by omega
        subst this
        rw [getD_app_e q1.symm, hrow]⟩
    by_cases g : i = w0
    · rw [qF (by omega), cF, appO_some (by simp only [List.length_cons, List.length_nil]; omega) (by simp only [List.length_cons, List.length_nil]; omega), bS]
      refine ⟨_, rfl, fin _ ?_⟩
      refine list_ext' (d := []) (by rw [List.length_replicate, hro]) (fun j hj => ?_)
      rw [List.length_replicate] at hj
      rw [hrep j hj]
      by_cases c : j = w0
      · rw [c, g, o4]
      · rw [o2 i hin j hj c]
    · obtain ⟨c1, c2⟩ := o3 i hin g
      obtain ⟨lw, _⟩ := o1.w i hin w0 hw
      rw [qT (by omega), cT, Nat.sub_zero]
      obtain ⟨row, erow, d1, d2, d3⟩ := rgS_inv (body := fun k2 (st : (List (List Nat))) => privityref47_RecoverRows_L1 ((w0 + 1 : Nat) : Int) l net.zw i k2 st) (rem := l.length) (k := 0) (s := List.replicate n ([] : List Nat)) (fun k row => row.length = n ∧ row.getD w0 [] = ((out.getD i []).getD w0 []).take k ∧ ∀ j, j < n → j ≠ w0 → row.getD j [] = []) ⟨by simp, by rw [hrep w0 hw]; simp, fun j hj _ => hrep j hj⟩ (fun k row _ hk ⟨d1, d2, d3⟩ => by
        have hkl : k < l.length := by omega
        have hrow := hl.row k hkl
        obtain ⟨el1, el2⟩ := hl.el k hkl i hin
        obtain ⟨y, ey, y1, y2⟩ := refEval_ok hp el2 (x := w0 + 1) (by omega)
        have hy : y = ((out.getD i []).getD w0 []).getD k 0 := o_inj y1 (lw.get hp.pos k) (by rw [y2, c2 k hkl])
        have hrl : (row.getD w0 []).length = k := by rw [d2, List.length_take]; omega
        unfold privityref47_RecoverRows_L1
        rw [subI_some (by omega) (by omega), bS, ew, idx_getD [] (by omega) (by omega), bS, Int.toNat_natCast, ix [] hkl, bS, ix [] (by omega), bS, hu, bS, ey, bS, appO_some (by rw [hrl]; simp only [List.length_cons, List.length_nil]; omega) (by rw [hrl]; simp only [List.length_cons, List.length_nil]; omega), bS, bS]
        refine ⟨_, rfl, by rw [List.length_set]; exact d1, ?_, fun j hj hne => ?_⟩
        · rw [getD_set (by omega), if_pos rfl, take_succ' (d := 0) (by omega), d2, hy]
        · rw [getD_set (by omega), if_neg (fun e => hne e.symm)]; exact d3 j hj hne)
      rw [Nat.zero_add] at d2
      rw [erow, bS, appO_some (by simp only [List.length_cons, List.length_nil]; omega) (by simp only [List.length_cons, List.length_nil]; omega), bS]
      refine ⟨_, rfl, fin _ ?_⟩
      refine list_ext' (d := []) (by rw [d1, hro]) (fun j hj => ?_)
      by_cases c : j = w0
      · rw [c, d2, List.take_of_length_le (by omega)]
      · rw [d3 j (by omega) c, o2 i hin j (by omega) c])
  rw [Nat.zero_add] at q1 q2
  have hout : out' = out := list_ext' (d := []) (by rw [q1, o1.len]) (fun i hi => q2 i (by omega))
  have es' := refSend_ok (L := 3) s hz hzr hzv o1 (by omega) es
  have e2 : (n : Int) - 2 = ((n - 2 : Nat) : Int) := by omega
  have e3 : ((n - 2 : Nat) : Int) - (t : Int) = ((n - 2 - t : Nat) : Int) := by omega
  have e4 : divI ((n - 2 - t : Nat) : Int) (2 : Int) = some (((n - 2 - t) / 2 : Nat) : Int) := divI_ok (b := 2) (by decide) (by omega)
  have e5 : (t : Int) + 1 = ((t + 1 : Nat) : Int) := by omega
  rw [eo, bS, hout, es', bS, subI_some (by omega) (by omega), bS, ew]
  simp only
  rw [idx_getD [] (by omega) (by omega), bS, Int.toNat_natCast, Nat.sub_zero]
  obtain ⟨rr, err, hre⟩ := rgS_inv (body := fun k3 (st : (List (List Nat))) => privityref47_RecoverRows_L2 ((w0 + 1 : Nat) : Int) net.zw (inn.getD w0 []) k3 st) (rem := l.length) (k := 0) (s := ([] : List (List Nat))) (fun k rr => rr = rows.take k) (by simp) (fun k rr _ hk hre => by
    have hkl : k < l.length := by omega
    obtain ⟨pts, f, at_, e, r, hP, p1, p2, ed, hrk, rl, rc⟩ := r2 k hkl
    have hrrl : rr.length = k := by rw [hre, List.length_take]; omega
    unfold privityref47_RecoverRows_L2
    rw [eN', hmx, Nat.sub_zero]
    obtain ⟨pts', ep', w1, w2⟩ := rgS_inv (body := fun k4 (st : (List T_api_Point)) => privityref47_RecoverRows_L3 ((w0 + 1 : Nat) : Int) (inn.getD w0 []) k k4 st) (rem := n) (k := 0) (s := ([] : List T_api_Point))
      (fun i pts' => pts'.length = (if w0 < i then i - 1 else i) ∧ ∀ q, q < (if w0 < i then i - 1 else i) → pts'.getD q default = pts.getD q default) ⟨by simp, fun q hq => by simp at hq⟩ (fun i pts' _ hi ⟨w1, w2⟩ => by
        have hin : i < n := by omega
        have hui : toU (((i : Nat) : Int) + 1) = i + 1 := by unfold toU; omega
        have ek : ((k : Nat) : Int) + 1 = ((k + 1 : Nat) : Int) := by omega
        unfold privityref47_RecoverRows_L3
        rw [addI_some (by omega) (by omega), bS]
        by_cases g : i = w0
        · rw [qF (by omega), cF]
          have hif : (if w0 < i + 1 then i + 1 - 1 else i + 1) = (if w0 < i then i - 1 else i) := by rw [if_pos (by omega), if_neg (by omega)]; omega
          rw [hif]
          exact ⟨_, rfl, w1, w2⟩
        · have hpl : pts'.length ≤ 13 := by split at w1 <;> omega
          have hif : (if w0 < i + 1 then i + 1 - 1 else i + 1) = (if w0 < i then i - 1 else i) + 1 := by
            by_cases c : w0 < i
            · rw [if_pos (by omega), if_pos c]; omega
            · rw [if_neg (by omega), if_neg c]
          obtain ⟨r0, er0, z1, z2⟩ := refResize_ok (l := (inn.getD w0 []).getD i []) (m := k + 1) (by omega)
          rw [qT (by omega), cT, hui, bS, ix [] (by omega), bS, addI_some (by omega) (by omega), bS, ek, er0, bS, ix 0 (by omega), bS, z2 k (by omega), appO_some (by simp only [List.length_cons, List.length_nil]; omega) (by simp only [List.length_cons, List.length_nil]; omega), bS, hif]
          refine ⟨_, rfl, by rw [List.length_append, w1]; rfl, fun q hq => ?_⟩
          by_cases c : q < pts'.length
          · rw [getD_app_l c]; exact w2 q (by omega)
          · rw [getD_app_e (by omega)]
            have hoth : oth w0 q = i := by
              unfold oth
              by_cases c2 : w0 < i
              · rw [if_pos c2] at hq w1; rw [if_neg (by omega)]; omega
              · rw [if_neg c2] at hq w1; rw [if_pos (by omega)]; omega
            have hqn : q < n - 1 := by
              unfold oth at hoth
              split at hoth <;> omega
            rw [p2 q hqn, hoth, i2 i hin])
    rw [Nat.zero_add, if_pos hw] at w1 w2
    have hpts : pts' = pts := list_ext' (d := default) (by omega) (fun q hq => w2 q (by omega))
    obtain ⟨f2, at2, e2', f', e', ed2, ed3, g4, g5⟩ := rec_dec (deg := t) (w := (n - 2 - t) / 2) hp hP (by omega) (by omega)
    rw [ed] at ed2
    obtain ⟨rfl, h2⟩ := Prod.mk.inj (Option.some.inj ed2)
    obtain ⟨rfl, rfl⟩ := Prod.mk.inj h2
    obtain ⟨r0, er0, z1, z2⟩ := refResize_ok (l := f') (m := t + 1) (by omega)
    have hr0 : r0 = rows.getD k [] := by
      rw [hrk]
      exact list_ext' (d := 0) (by omega) (fun c hc => by rw [z2 c (by omega), rc c (by omega), g5])
    rw [ep', bS, hpts, subI_some (by omega) (by omega), bS, e2, eT', subI_some (by omega) (by omega), bS, e3, e4, bS, ed3, bS, addI_some (by omega) (by omega), bS, e5]
    simp only
    rw [er0, bS, appO_some (by rw [hrrl]; simp only [List.length_cons, List.length_nil]; omega) (by rw [hrrl]; simp only [List.length_cons, List.length_nil]; omega), bS]
    refine ⟨_, rfl, ?_⟩
    rw [take_succ' (d := []) (by omega), hre, hr0])
  have hrr : rr = rows := by rw [hre, Nat.zero_add, List.take_of_length_le (by omega)]
  rw [err, bS, hrr]
theorem nets47_full {w : T_api_Scenario} {n t : Nat} (v : Va w n t) (hv : privityref12_ValidScenario w = some true) : ∃ zt, privitylaw47_nets w = some (.inr (.inr (.inr (netOf w n, ⟨w, 0, List.replicate n [], zt⟩)))) := by
  obtain ⟨zt, e⟩ := refNew_full v hv
  unfold privitylaw47_nets
  rw [new_ok v, bS, sR, e, bS, sR]
  exact ⟨zt, rfl⟩
theorem law_RecRows (z : T_privitylaw47_Ask) (hK : ∀ x ∈ z.W.Deviations, x.K < 18446744073709551616) (hW : z.Who < 256) (hb : ∀ l ∈ z.L, l.length ≤ 140737488355328) : privitylaw47_RecoveryRows z = some true := by
  unfold privitylaw47_RecoveryRows
  obtain ⟨b, e, hbt⟩ := may47_ok hK
  rw [e, bS]
  cases b with
  | false => rw [nF, cT, aw47, bS]
  | true =>
    obtain ⟨⟨n, t, v, hv⟩, hL, hS⟩ := hbt rfl
    have s := v.toSc
    have hp := s.sup
    haveI : NeZero z.W.S.P := hp.ne
    haveI : NeZero (netOf z.W n).zw.S.P := hp.ne
    have h13 := s.n13
    have h4 := s.n4
    obtain ⟨zt, em⟩ := nets47_full v hv
    obtain ⟨ew, hw⟩ := who_ok (z := z) s.N (by omega) h13 hW
    obtain ⟨l, el, l1, l2⟩ := numbers_ok s v.par hL hS hb
    rw [nT, cF, em, bS, sR, sR, sR, ew, bS, el, bS]
    generalize hw0 : z.Who % n = w0 at *
    have key : ∃ rows r views, recovery_RecoverRows (netOf z.W n) ((w0 + 1 : Nat) : Int) l = some (rows, r, views) ∧ privityref47_RecoverRows ⟨z.W, 0, List.replicate n [], zt⟩ ((w0 + 1 : Nat) : Int) l = some (rows, r, views) ∧ views.length = n ∧ ∀ j, j < n → (views.getD j []).length ≤ 1000 := by
      by_cases hl0 : z.L.length = 0
      · refine ⟨[], 0, List.replicate n [], ?_, ?_, by simp, fun j hj => by simp [List.getD_eq_getElem?_getD, hj]⟩
        · unfold recovery_RecoverRows
          rw [eT (by omega), cT]; rfl
        · unfold privityref47_RecoverRows privityref14_Net_Scenario
          rw [bS, eT (by omega), cT]
      · obtain ⟨rows, views, er, er', c2, c3⟩ := refRec_ok (net := netOf z.W n) (mn := ⟨z.W, 0, List.replicate n [], zt⟩) (w0 := w0) rfl rfl rfl s (shs_of l1 (fun k hk => ⟨(l2 k hk).1, (l2 k hk).2.1⟩)) (by omega) (by omega) hw netOf_views.1 (fun j hj => by rw [netOf_views.2 j hj]; simp) ⟨by show (0 : Int) ≤ 0; omega, by show (0 : Int) ≤ 1000; omega⟩
        refine ⟨rows, _, views, er, er', c2, fun j hj => ?_⟩
        have := c3 j hj
        rw [netOf_views.2 j hj, List.length_nil] at this
        omega
    obtain ⟨rows, r, views, er, er', c2, c3⟩ := key
    have hm : max 1 (z.W.S.N + 1).toNat = n + 1 := by rw [s.N]; omega
    rw [er, bS, er', bS]
    simp only
    rw [lists_refl, bS, nT, cF]
    unfold network_Net_Rounds privityref14_Net_Rounds
    rw [bS, bS, qF rfl, bS, cF, hm, ckN_some (by omega), bS, Nat.add_sub_cancel, rgO_go' (fun j1 hj1 hj2 => by
      obtain ⟨j, rfl⟩ : ∃ j, j1 = j + 1 := ⟨j1 - 1, by omega⟩
      have hj : j < n := by omega
      unfold privitylaw47_RecoveryRows_L0
      simp only
      rw [refView_eq (net := ⟨(netOf z.W n).zw, r, views, (netOf z.W n).ztapes⟩) (m := ⟨z.W, r, views, zt⟩) rfl, view_ok (net := ⟨(netOf z.W n).zw, r, views, (netOf z.W n).ztapes⟩) (by show j < views.length; omega) (by show views.length ≤ 1000; omega) (c3 j hj), bS, bS, views_refl, bS, nT, cF]), bS, oG, aw47, bS]
end Pu
