/- Plain laws of chapter 20: opening rows. -/
import Derived.Test.YtclhpomlfadohaaDoorQb9
set_option linter.unusedVariables false
namespace Pu
open Gw Gl Sp Lean.Grind
theorem conc0 {a b : List Nat} (h : a.length + b.length ≤ 1000) : slices_Concat_Luint64_uint64_L0 [a, b] 0 ((0 : Nat) : Int) = some (a.length : Int) := by
  have g0 : [a, b].getD 0 [] = a := rfl
  have z : ((0 : Nat) : Int) + (a.length : Int) = (a.length : Int) := by omega
  unfold slices_Concat_Luint64_uint64_L0
  rw [ix [] (by simp), bS, g0, addI_some (by omega) (by omega), bS, z, dF (by omega), cF]
theorem conc1 {a b : List Nat} (h : a.length + b.length ≤ 1000) : slices_Concat_Luint64_uint64_L0 [a, b] 1 (a.length : Int) = some ((a.length + b.length : Nat) : Int) := by
  have g0 : [a, b].getD 1 [] = b := rfl
  have z : (a.length : Int) + (b.length : Int) = ((a.length + b.length : Nat) : Int) := by omega
  unfold slices_Concat_Luint64_uint64_L0
  rw [ix [] (by simp), bS, g0, addI_some (by omega) (by omega), bS, z, dF (by omega), cF]
theorem grow_nil {m : Nat} (h : m ≤ 1000) : slices_Grow_Luint64_uint64_nil ((m : Nat) : Int) = some [] := by
  unfold slices_Grow_Luint64_uint64_nil
  rw [dF (by omega), cF, subI_some (by omega) (by omega), bS]
  by_cases g : 0 < m
  · rw [dT (by omega), cT, mkO_some (by omega) (by omega) (by omega) (by omega), bS, cutO_some (by omega) (by omega) (by omega), bS, Nat.sub_self, List.take_zero]
  · rw [dF (by omega), cF]
theorem conc2 {a b : List Nat} (h : a.length + b.length ≤ 1000) : slices_Concat_Luint64_uint64_L1 [a, b] 0 [] = some a := by
  have g0 : [a, b].getD 0 [] = a := rfl
  unfold slices_Concat_Luint64_uint64_L1
  rw [ix [] (by simp), bS, g0, appO_some (by simp only [List.length_nil]; omega) (by simp only [List.length_nil]; omega), bS, List.nil_append]
theorem conc3 {a b : List Nat} (h : a.length + b.length ≤ 1000) : slices_Concat_Luint64_uint64_L1 [a, b] 1 a = some (a ++ b) := by
  have g0 : [a, b].getD 1 [] = b := rfl
  unfold slices_Concat_Luint64_uint64_L1
  rw [ix [] (by simp), bS, g0, appO_some (by omega) (by omega), bS]
theorem rgS2 {S : Type} {body : Nat → S → Option S} {a b c : S} (h0 : body 0 a = some b) (h1 : body 1 b = some c) : rgS body 2 0 a = some c := by
  simp only [rgS, h0, h1]
theorem concat2_ok {a b : List Nat} (h : a.length + b.length ≤ 1000) : slices_Concat_Luint64_uint64 [a, b] = some (a ++ b) := by
  have e0 : [a, b].length - 0 = 2 := rfl
  unfold slices_Concat_Luint64_uint64
  rw [e0, rgS2 (conc0 h) (conc1 h), bS, grow_nil h, bS, rgS2 (conc2 h) (conc3 h), bS]
/-- what opening rows does -/
theorem rows_ok {net : T_network_Net} {n t m : Nat} [NeZero net.zw.S.P] (s : Sc net.zw n t) {w : List (List (List Nat))} {ats : List Int} (hm : m ≤ 20) (h1 : w.length = m) (hm0 : 0 < m) (h2 : ∀ k, k < m → (w.getD k []).length = n ∧ ∀ i, i < n → ((w.getD k []).getD i []).length ≤ 100 ∧ Lt net.zw.S.P ((w.getD k []).getD i []))
    (h3 : ats.length = m) {a : Nat → Nat} (h4 : ∀ k, k < m → ats.getD k 0 = ((a k + 1 : Nat) : Int) ∧ a k < n) (hv : net.zviews.length = n) (hb : ∀ j, j < n → (net.zviews.getD j []).length ≤ 500) (hr : 0 ≤ net.zround ∧ net.zround ≤ 1000) :
    ∃ (lists : List (List Nat)) (all : List (List (List Nat))) (rows : List (List (List Nat))) (views : List (List T_api_Event)), reconstruct_Rows net w ats = some (rows, net.zround + 1, views) ∧ (∀ i, i < n → (lists.getD i []).length = m ∧ ∀ k, k < m → (lists.getD i []).getD k 0 < net.zw.S.P ∧ o net.zw.S.P ((lists.getD i []).getD k 0) = evl (P net.zw.S.P ((w.getD k []).getD i [])) (o net.zw.S.P (a k + 1))) ∧ Sq net.zw.S.P n 20 all ∧
      (∀ i, i < n → (((i : Nat) : Int) + 1) ∉ net.zw.Corrupt → ∀ j, j < n → (all.getD i []).getD j [] = lists.getD i []) ∧ rows.length = n ∧ views.length = n ∧
      (∀ j, j < n → (rows.getD j []).length = m ∧ ∀ k, k < m → ∃ pts f at_ e, reconstruct_points (wd all n j k) = some pts ∧ reedsolomon_Decode net.zw.S.P pts net.zw.S.T net.zw.S.T = some (f, at_, e) ∧ Lt net.zw.S.P f ∧ f.length ≤ t + 1 ∧ (rows.getD j []).getD k [] = f ++ List.replicate (t + 1 - f.length) 0) ∧
      (∀ j, j < n → views.getD j [] = net.zviews.getD j [] ++ evs net.zround all j n) := by
  have hp := s.sup
  have hlt := hp.lt
  have h13 := s.n13
  have h4' := s.n4
  have h3t := s.t3
  unfold reconstruct_Rows network_Net_Scenario
  rw [bS, s.N, mkO_some (by omega) (by omega) (by omega) (by omega), bS, Int.toNat_natCast, h1, eF (by omega), cF, mkO_some (by omega) (by omega) (by omega) (by omega), bS, Int.toNat_natCast, List.length_replicate, Nat.sub_zero]
  obtain ⟨lists, el, l1, l2, _⟩ := rgS_inv (body := fun k1 (st : (List (List Nat))) => reconstruct_Rows_L0 w ats net.zw k1 st) (rem := n) (k := 0) (s := List.replicate n ([] : List Nat))
    (fun i l => l.length = n ∧ (∀ i', i' < i → (l.getD i' []).length = m ∧ ∀ k, k < m → (l.getD i' []).getD k 0 < net.zw.S.P ∧ o net.zw.S.P ((l.getD i' []).getD k 0) = evl (P net.zw.S.P ((w.getD k []).getD i' [])) (o net.zw.S.P (a k + 1))) ∧ ∀ i', i ≤ i' → l.getD i' [] = [])
    ⟨by simp, fun i hi => by omega, fun i _ => by by_cases g : i < n <;> simp [List.getD_eq_getElem?_getD, g]⟩ (fun i l _ hi ⟨l1, l2, l3⟩ => by
      have hin : i < n := by omega
      unfold reconstruct_Rows_L0
      rw [Nat.sub_zero, h1]
      obtain ⟨r, er, r1, r2, r3, r4⟩ := rgS_inv (body := fun k2 (st : (List (List Nat))) => reconstruct_Rows_L1 w ats net.zw i k2 st) (rem := m) (k := 0) (s := l)
        (fun k r => r.length = n ∧ (r.getD i []).length = k ∧ (∀ q, q < k → (r.getD i []).getD q 0 < net.zw.S.P ∧ o net.zw.S.P ((r.getD i []).getD q 0) = evl (P net.zw.S.P ((w.getD q []).getD i [])) (o net.zw.S.P (a q + 1))) ∧ ∀ i', i' ≠ i → r.getD i' [] = l.getD i' [])
        ⟨l1, by rw [l3 i (Nat.le_refl i)]; rfl, fun q hq => by omega, fun _ _ => rfl⟩ (fun k r _ hk ⟨r1, r2, r3, r4⟩ => by
          have hkm : k < m := by omega
          obtain ⟨w1, w2⟩ := h2 k hkm
          obtain ⟨w3, w4⟩ := w2 i hin
          obtain ⟨a1, a2⟩ := h4 k hkm
          have hu : toU ((a k + 1 : Nat) : Int) = a k + 1 := by unfold toU; omega
          obtain ⟨y, ey, y1, y2⟩ := eval_ok hp (x := a k + 1) w4 (by omega) (by omega)
          unfold reconstruct_Rows_L1
          rw [ix [] (by omega), bS, ix [] (by omega), bS, ix [] (by omega), bS, ix 0 (by omega), bS, a1, bS, hu, ey, bS, appO_some (by rw [r2]; simp only [List.length_cons, List.length_nil]; omega) (by rw [r2]; simp only [List.length_cons, List.length_nil]; omega), bS, bS]
          refine ⟨_, rfl, by rw [List.length_set]; exact r1, ?_, fun q hq => ?_, fun i' hi' => ?_⟩
          · rw [getD_set (by omega), if_pos rfl, List.length_append, r2]; rfl
          · rw [getD_set (by omega), if_pos rfl]
            by_cases g : q < k
            · rw [getD_app_l (by omega)]; exact r3 q g
            · have : q = k := by omega
              subst this
              rw [getD_app_e r2.symm]
              exact ⟨y1, y2⟩
          · rw [getD_set (by omega), if_neg (fun e => hi' e.symm)]; exact r4 i' hi')
      rw [Nat.zero_add] at r2 r3
      rw [er, bS]
      refine ⟨_, rfl, r1, fun i' hi' => ?_, fun i' hi' => ?_⟩
      · by_cases g : i' = i
        · subst g; exact ⟨r2, r3⟩
        · rw [r4 i' g]; exact l2 i' (by omega)
      · rw [r4 i' (by omega)]; exact l3 i' (by omega))
  rw [Nat.zero_add] at l2
  obtain ⟨all, heard, views, es, a1, a2, a3, a4, a5, a6⟩ := said_ok (L := 20) (m := m) s l1 (fun i hi => ⟨fun q hq => by have := l2 i hi; exact (this.2 q (by omega)).1, by rw [(l2 i hi).1]; exact hm⟩) (by omega) (by omega) hv hb hr
  rw [el, bS, es, bS]
  simp only
  rw [a3, Nat.sub_zero]
  obtain ⟨rows, e, b1, b2, _⟩ := rgS_inv (body := fun k3 (st : (List (List (List Nat)))) => reconstruct_Rows_L2 net.zw (heard, net.zround + 1, views) k3 st) (rem := n) (k := 0) (s := List.replicate n ([] : List (List Nat)))
    (fun j r => r.length = n ∧ (∀ j', j' < j → (r.getD j' []).length = m ∧ ∀ k, k < m → ∃ pts f at_ e, reconstruct_points (wd all n j' k) = some pts ∧ reedsolomon_Decode net.zw.S.P pts net.zw.S.T net.zw.S.T = some (f, at_, e) ∧ Lt net.zw.S.P f ∧ f.length ≤ t + 1 ∧ (r.getD j' []).getD k [] = f ++ List.replicate (t + 1 - f.length) 0) ∧ ∀ j', j ≤ j' → r.getD j' [] = [])
    ⟨by simp, fun i hi => by omega, fun i _ => by by_cases g : i < n <;> simp [List.getD_eq_getElem?_getD, g]⟩ (fun j r _ hj ⟨b1, b2, b3⟩ => by
      have hjn : j < n := by omega
      obtain ⟨c1, c2⟩ := a4 j hjn
      unfold reconstruct_Rows_L2
      simp only
      rw [ix [] (by omega), bS, c1, Nat.sub_zero]
      obtain ⟨q, eq, q1, q2, q3, q4⟩ := rgS_inv (body := fun k4 (st : (List (List (List Nat)))) => reconstruct_Rows_L3 net.zw j (heard.getD j []) k4 st) (rem := m) (k := 0) (s := r)
        (fun k q => q.length = n ∧ (q.getD j []).length = k ∧ (∀ k', k' < k → ∃ pts f at_ e, reconstruct_points (wd all n j k') = some pts ∧ reedsolomon_Decode net.zw.S.P pts net.zw.S.T net.zw.S.T = some (f, at_, e) ∧ Lt net.zw.S.P f ∧ f.length ≤ t + 1 ∧ (q.getD j []).getD k' [] = f ++ List.replicate (t + 1 - f.length) 0) ∧ ∀ j', j' ≠ j → q.getD j' [] = r.getD j' [])
        ⟨b1, by rw [b3 j (Nat.le_refl j)]; rfl, fun q hq => by omega, fun _ _ => rfl⟩ (fun k q _ hk ⟨q1, q2, q3, q4⟩ => by
          have hkm : k < m := by omega
          have hwl : (wd all n j k).length = n := wd_len
          have hwp : Lt net.zw.S.P (wd all n j k) := fun i hi => by
            rw [hwl] at hi
            rw [wd_get hi]
            exact (a1.w i hi j hjn).1.get hp.pos k
          obtain ⟨pts, ep, p1, p2⟩ := points_ok (w := wd all n j k) (by omega)
          have hP := pts_ok hp hwp (by omega) p1 p2
          obtain ⟨f, at_, e, ed, f1, f2, _, _⟩ := decode_ok (deg := t) (w := t) hp hP (by omega) (by omega)
          have et : ((t : Nat) : Int) + 1 = ((t + 1 : Nat) : Int) := by omega
          have ef : ((t + 1 : Nat) : Int) - (f.length : Int) = ((t + 1 - f.length : Nat) : Int) := by omega
          unfold reconstruct_Rows_L3
          rw [ix [] (by omega), bS, c2 k hkm, ep, bS, s.T, ed, bS, ix [] (by omega), bS, addI_some (by omega) (by omega), bS, et]
          simp only
          rw [subI_some (by omega) (by omega), bS, ef, mkO_some (by omega) (by omega) (by omega) (by omega), bS, Int.toNat_natCast, concat2_ok (by rw [List.length_replicate]; omega), bS, appO_some (by rw [q2]; simp only [List.length_cons, List.length_nil]; omega) (by rw [q2]; simp only [List.length_cons, List.length_nil]; omega), bS, bS]
          refine ⟨_, rfl, by rw [List.length_set]; exact q1, ?_, fun k' hk' => ?_, fun j' hj' => ?_⟩
          · rw [getD_set (by omega), if_pos rfl, List.length_append, q2]; rfl
          · rw [getD_set (by omega), if_pos rfl]
            by_cases g : k' < k
            · rw [getD_app_l (by omega)]; have := q3 k' g; rw [s.T] at this; exact this
            · have : k' = k := by omega
              subst this
              rw [getD_app_e q2.symm]
              exact ⟨pts, f, at_, e, ep, ed, f1, f2, rfl⟩
          · rw [getD_set (by omega), if_neg (fun e => hj' e.symm)]; exact q4 j' hj')
      rw [Nat.zero_add] at q2 q3
      rw [eq, bS]
      refine ⟨_, rfl, q1, fun j' hj' => ?_, fun j' hj' => ?_⟩
      · by_cases g : j' = j
        · subst g; exact ⟨q2, q3⟩
        · rw [q4 j' g]; exact b2 j' (by omega)
      · rw [q4 j' (by omega)]; exact b3 j' (by omega))
  rw [Nat.zero_add] at b2
  rw [e, bS]
  exact ⟨lists, all, rows, views, rfl, l2, a1, a2, b1, a5, b2, a6⟩
theorem aw20 : privitylaw20_awake = some true := by decide +kernel
def netOf (w : T_api_Scenario) (n : Nat) : T_network_Net := ⟨w, 0, List.replicate n [], List.replicate n ()⟩
theorem netOf_views {w : T_api_Scenario} {n : Nat} : (netOf w n).zviews.length = n ∧ ∀ j, j < n → ((netOf w n).zviews.getD j []) = [] := ⟨by simp [netOf], fun j hj => by simp [netOf, List.getD_eq_getElem?_getD, hj]⟩
theorem nets20_ok {w : T_api_Scenario} {n t : Nat} (v : Va w n t) (hv : privityref12_ValidScenario w = some true) : ∃ m, privitylaw20_nets w = some (.inr (.inr (.inr (netOf w n, m)))) := by
  obtain ⟨m, e⟩ := refNew_ok v hv
  unfold privitylaw20_nets
  rw [new_ok v, bS, sR, e, bS, sR]
  exact ⟨m, rfl⟩
theorem rgO_go' {R : Type} {body : Nat → Unit → Option (Out Unit R)} : ∀ {n k : Nat}, (∀ j, k ≤ j → j < k + n → body j () = some (.go ())) → rgO body n k () = some (.go ())
  | 0, _, _ => rfl
  | n + 1, k, h => by
    simp only [rgO, h k (Nat.le_refl k) (by omega)]
    exact rgO_go' fun j h1 h2 => h j (by omega) (by omega)
theorem list_ext {a b : List Nat} {n : Nat} (h1 : a.length = n) (h2 : b.length = n) (h : ∀ i, i < n → a.getD i 0 = b.getD i 0) : a = b := by
  apply List.ext_getElem?
  intro i
  by_cases g : i < n
  · rw [ix 0 (by omega), ix 0 (by omega), h i g]
  · rw [List.getElem?_eq_none (by omega), List.getElem?_eq_none (by omega)]
theorem equal_refl (a : List Nat) : privityref04_Equal a a = some true := by
  unfold privityref04_Equal
  rw [qF rfl, cF, rgO_go' (fun j _ hj => by
    unfold privityref04_Equal_L0
    rw [ix 0 (show j < a.length by omega), bS, bS, qF rfl, cF]), bS, oG]
theorem lt_pair {p a b : Nat} (ha : a < p) (hb : b < p) : Lt p [a, b] := fun i hi => by
  have hi : i < 2 := hi
  have : i = 0 ∨ i = 1 := by omega
  rcases this with rfl | rfl
  · exact ha
  · exact hb
theorem plane_ok {p : Nat} [NeZero p] (hp : Sup p) {r : T_privitylaw20_plane} {x : Nat} (h : r.zp = p) (ha : r.za < p) (hb : r.zb < p) (hc : r.zc < p) (hx : x < p) : ∃ f g, privitylaw20_plane_at r x = some [f, g] ∧ f < p ∧ g < p ∧ o p f = o p r.za + o p r.zb * o p x ∧ o p g = o p r.zb + o p r.zc * o p x := by
  obtain ⟨f, ef, f1, f2⟩ := refEval_ok hp (lt_pair ha hb) hx
  obtain ⟨g, eg, g1, g2⟩ := refEval_ok hp (lt_pair hb hc) hx
  unfold privitylaw20_plane_at
  rw [h, ef, bS, eg, bS]
  refine ⟨f, g, rfl, f1, g1, ?_, ?_⟩
  · rw [f2]; show o p r.za + o p x * (o p r.zb + o p x * 0) = _; grind
  · rw [g2]; show o p r.zb + o p x * (o p r.zc + o p x * 0) = _; grind
theorem law_RowsRobust (w : T_api_Scenario) (three : T_arr3_22) (at_ : Nat) (hK : ∀ x ∈ w.Deviations, x.K < 18446744073709551616) (hA : at_ < 256) : privitylaw20_ReconstructRowsRobust w three at_ = some true := by
  unfold privitylaw20_ReconstructRowsRobust
  obtain ⟨b, e, hb⟩ := fair_ok (w := w) (lies := ((40 : Nat) : Int)) (words := ((20 : Nat) : Int)) hK (by omega) (by omega)
  rw [e, bS]
  cases b with
  | false => rw [nF, cT, bS, cT, aw20, bS]
  | true =>
    obtain ⟨n, t, v, hv⟩ := hb rfl
    have s := v.toSc
    have hp := s.sup
    haveI : NeZero w.S.P := hp.ne
    haveI : NeZero (netOf w n).zw.S.P := hp.ne
    have hlt := hp.lt
    have h13 := s.n13
    have h4 := s.n4
    have h3 := s.t3
    rw [nT, cF, bS]
    by_cases g1 : t = 1
    · subst g1
      obtain ⟨m, em⟩ := nets20_ok v hv
      have rp : ∀ y, remU y w.S.P = some (y % w.S.P) := fun y => by unfold remU; rw [if_neg (by omega)]
      have hx0 := Nat.mod_lt three.e0 hp.pos
      have hx1 := Nat.mod_lt three.e1 hp.pos
      have hx2 := Nat.mod_lt three.e2 hp.pos
      have hm : max 1 (w.S.N + 1).toNat = n + 1 := by rw [s.N]; omega
      have hta : toI ((at_ : Nat) : Int) = at_ := by unfold toI; omega
      have hra : remI ((at_ : Nat) : Int) ((n : Nat) : Int) = some ((at_ % n : Nat) : Int) := by
        unfold remI
        rw [if_neg (by omega), Int.tmod_eq_emod_of_nonneg (by omega)]; rfl
      have haw := Nat.mod_lt at_ (show 0 < n by omega)
      have eaw : (1 : Int) + ((at_ % n : Nat) : Int) = ((at_ % n + 1 : Nat) : Int) := by omega
      rw [qF (by rw [s.T]; rfl), cF, rp, bS, rp, bS, rp, bS, hm, ckN_some (by omega), bS, Nat.add_sub_cancel]
      generalize three.e0 % w.S.P = A at *
      generalize three.e1 % w.S.P = B at *
      generalize three.e2 % w.S.P = C at *
      obtain ⟨l, el, l1, l2⟩ := rgS_inv (body := fun k1 (st : (List (List Nat))) => privitylaw20_ReconstructRowsRobust_L0 w A B C k1 st) (rem := n) (k := 1) (s := ([] : List (List Nat)))
        (fun j l => l.length + 1 = j ∧ ∀ i, i + 1 < j → ∃ f g, l.getD i [] = [f, g] ∧ f < w.S.P ∧ g < w.S.P ∧ o w.S.P f = o w.S.P A + o w.S.P B * o w.S.P (i + 1) ∧ o w.S.P g = o w.S.P B + o w.S.P C * o w.S.P (i + 1)) ⟨rfl, fun i hi => by omega⟩ (fun j l hj1 hj ⟨l1, l2⟩ => by
          have hu : toU ((j : Nat) : Int) = j := by unfold toU; omega
          obtain ⟨f, g, efg, f1, f2, f3, f4⟩ := plane_ok (x := j) hp (r := ⟨w.S.P, A, B, C⟩) rfl hx0 hx1 hx2 (by omega)
          unfold privitylaw20_ReconstructRowsRobust_L0
          rw [bS, hu, efg, bS, appO_some (by simp only [List.length_cons, List.length_nil]; omega) (by simp only [List.length_cons, List.length_nil]; omega), bS]
          refine ⟨_, rfl, by rw [List.length_append]; show l.length + 1 + 1 = j + 1; omega, fun i hi => ?_⟩
          by_cases c : i + 1 < j
          · rw [getD_app_l (by omega)]; exact l2 i c
          · have : i + 1 = j := by omega
            rw [getD_app_e (by omega)]
            subst this
            exact ⟨f, g, rfl, f1, f2, f3, f4⟩)
      have hll : l.length = n := by omega
      have l3 : ∀ i, i < n → ∃ f g, l.getD i [] = [f, g] ∧ f < w.S.P ∧ g < w.S.P ∧ o w.S.P f = o w.S.P A + o w.S.P B * o w.S.P (i + 1) ∧ o w.S.P g = o w.S.P B + o w.S.P C * o w.S.P (i + 1) := fun i hi => l2 i (by omega)
      rw [el, bS, bS, hta, s.N, hra, bS, addI_some (by omega) (by omega), bS, eaw, em, bS, sR, sR, sR]
      generalize at_ % n = q0 at *
      obtain ⟨lists, all, rows, views, er, r1, r2, r3, r4, r5, r6, _⟩ := rows_ok (net := netOf w n) (m := 1) s (w := [l]) (ats := [((q0 + 1 : Nat) : Int)]) (by omega) rfl (by omega) (fun k hk => by
        have : k = 0 := by omega
        subst this
        refine ⟨hll, fun i hi => ?_⟩
        obtain ⟨f, g, e, f1, f2, _⟩ := l3 i hi
        show (l.getD i []).length ≤ 100 ∧ Lt w.S.P (l.getD i [])
        rw [e]
        exact ⟨by show 2 ≤ 100; omega, lt_pair f1 f2⟩) rfl (a := fun _ => q0) (fun k hk => by
        have : k = 0 := by omega
        subst this
        exact ⟨rfl, haw⟩) netOf_views.1 (fun j hj => by rw [netOf_views.2 j hj]; simp) ⟨by show (0 : Int) ≤ 0; omega, by show (0 : Int) ≤ 1000; omega⟩
      have huw : toU ((q0 + 1 : Nat) : Int) = q0 + 1 := by unfold toU; omega
      obtain ⟨F, G, eFG, F1, F2, F3, F4⟩ := plane_ok (x := q0 + 1) hp (r := ⟨w.S.P, A, B, C⟩) rfl hx0 hx1 hx2 (by omega)
      replace F3 : o w.S.P F = o w.S.P A + o w.S.P B * o w.S.P (q0 + 1) := F3
      replace F4 : o w.S.P G = o w.S.P B + o w.S.P C * o w.S.P (q0 + 1) := F4
      have hrow : ∀ j, j < n → (rows.getD j []).length = 1 ∧ (rows.getD j []).getD 0 [] = [F, G] := fun j hj => by
        obtain ⟨c1, c2⟩ := r6 j hj
        refine ⟨c1, ?_⟩
        obtain ⟨pts, f, at1, e, x1, x2, x3, x4, x5⟩ := c2 0 (by omega)
        obtain ⟨pts', f', at', y1, y2, y3, y4, y5, _⟩ := heard_ok (k := 0) s r2 hj (f0 := [F, G]) (by show 2 ≤ 2; omega) (fun i hi hc => by
          rw [r3 i hi hc j hj]
          refine Eq.trans ((r1 i hi).2 0 (by omega)).2 ?_
          obtain ⟨f, g, e, _, _, f3, f4⟩ := l3 i hi
          show evl (P w.S.P (l.getD i [])) (o w.S.P (q0 + 1)) = _
          rw [e]
          show o w.S.P f + o w.S.P (q0 + 1) * (o w.S.P g + o w.S.P (q0 + 1) * 0) = o w.S.P F + o w.S.P (i + 1) * (o w.S.P G + o w.S.P (i + 1) * 0)
          rw [f3, f4, F3, F4]; grind)
        have e1 := Option.some.inj (x1.symm.trans y1)
        subst e1
        have e2 := Option.some.inj (x2.symm.trans y2)
        obtain ⟨rfl, _⟩ := Prod.mk.inj e2
        rw [x5]
        have hfl : (f ++ List.replicate (1 + 1 - f.length) 0).length = 2 := by rw [List.length_append, List.length_replicate]; omega
        have hget : ∀ i, (f ++ List.replicate (1 + 1 - f.length) 0).getD i 0 = f.getD i 0 := fun i => by
          by_cases g : i < f.length
          · rw [getD_app_l g]
          · rw [List.getD_eq_getElem?_getD, List.getD_eq_getElem?_getD, List.getElem?_append_right (by omega), List.getElem?_eq_none (show f.length ≤ i by omega), List.getElem?_replicate]
            split <;> rfl
        refine list_ext hfl rfl fun i hi => ?_
        rw [hget]
        exact o_inj (p := w.S.P) (x3.get hp.pos i) ((lt_pair F1 F2).get hp.pos i) (y5 i)
      rw [er, bS]
      simp only
      rw [r4, qF rfl, cF]
      obtain ⟨o1, eo, ho⟩ := rgO_inv (body := fun k2 (st : Unit) => privitylaw20_ReconstructRowsRobust_L1 w A B C ((q0 + 1 : Nat) : Int) (rows, (netOf w n).zround + 1, views) k2) (fun _ _ => True) (fun _ => False) (rem := n) (k := 1) (s := ()) trivial (fun j1 _ hj1 hj2 _ => by
        obtain ⟨j, rfl⟩ : ∃ j, j1 = j + 1 := ⟨j1 - 1, by omega⟩
        have hj : j < n := by omega
        have ej : ((j + 1 : Nat) : Int) - 1 = (j : Int) := by omega
        obtain ⟨c1, c2⟩ := hrow j hj
        unfold privitylaw20_ReconstructRowsRobust_L1
        rw [honest_ok, bS]
        by_cases hc : ((j + 1 : Nat) : Int) ∉ w.Corrupt
        · rw [dT hc, cT, subI_some (by omega) (by omega), bS, ej]
          simp only
          rw [idx_getD [] (by omega) (by omega), bS, Int.toNat_natCast, c1, qF (by omega), cF, ix [] (by omega), bS, bS, huw, eFG, bS, c2, equal_refl, bS, nT, cF]
          exact ⟨_, rfl, trivial⟩
        · rw [dF hc, cF]
          exact ⟨_, rfl, trivial⟩)
      rw [eo, bS]
      cases o1 with
      | fin _ => exact ho.elim
      | go _ => rw [oG, aw20, bS]
    · rw [qT (by rw [s.T]; omega), cT, aw20, bS]
end Pu
