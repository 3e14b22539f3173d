/- Plain laws of chapter 20: opening is linear. -/
import Derived.Test.YtclhpomlfadohaaDoorPc1
set_option linter.unusedVariables false
namespace Pu
open Gw Gl Sp Lean.Grind
theorem refSup_true {p : Nat} (hp : Sup p) : privityref01_Supported p = some true := by
  rcases hp with rfl | rfl | rfl | rfl | rfl | rfl | rfl <;> decide +kernel
/-- the scenario without deviations -/
abbrev calm (w : T_api_Scenario) : T_api_Scenario := ⟨w.S, [], [], w.Tapes⟩
theorem calm_va {w : T_api_Scenario} {n t : Nat} (v : Va w n t) : Va (calm w) n t :=
  { sup := v.sup, N := v.N, T := v.T, n4 := v.n4, n13 := v.n13, t1 := v.t1, t3 := v.t3, cl := by simp, cr := fun x hx => by simp at hx, dl := by simp, dv := fun x hx => by simp at hx, ord := fun i _ hi => by simp at hi, tl := v.tl, tb := v.tb, ts := v.ts, full := fun x hx => by simp at hx }
theorem below_true' {p : Nat} {l : List Nat} (h : Lt p l) : privityref05_Below p l = some true := by
  unfold privityref05_Below
  rw [Nat.sub_zero]
  obtain ⟨o, e, ho⟩ := rgO_inv (body := fun k1 (st : Unit) => privityref05_Below_L0 p l k1) (fun _ _ => True) (fun _ => False) (rem := l.length) (k := 0) (s := ()) trivial (fun k _ _ hk _ => by
    have := h k (by omega)
    unfold privityref05_Below_L0
    rw [ix 0 (by omega), bS, dF (by omega), cF]
    exact ⟨_, rfl, trivial⟩)
  rw [e, bS]
  cases o with
  | fin r => exact ho.elim
  | go _ => rw [oG]
theorem calm_valid {w : T_api_Scenario} {n t : Nat} (v : Va w n t) : privityref12_ValidScenario (calm w) = some true := by
  have h3 := v.t3
  unfold privityref12_ValidScenario
  have e1 : privityref12_Valid (calm w).S = some true := refValid_ok v.par (refSup_true v.sup)
  have e2 : privityref12_ValidCoalition (calm w).S (calm w).Corrupt = some true := by
    unfold privityref12_ValidCoalition
    rw [e1, bS, nT, cF, bS, dF (by show ¬ ((0 : Nat) : Int) > w.S.T; rw [v.T]; omega), cF]
    show (rgO _ 0 0 () >>= _) = _
    simp only [rgO]
    rw [bS, oG]
  rw [e1, bS, nT, cF, e2, bS, nT, cF, bS, qF (by show ((w.Tapes.length : Nat) : Int) = w.S.N; rw [v.tl, v.N]), cF]
  show (rgO _ 0 0 () >>= _) = _
  simp only [rgO]
  rw [bS, oG]
  obtain ⟨o, e, hq⟩ := rgO_inv (body := fun k1 (st : Unit) => privityref12_ValidScenario_L1 (calm w) k1) (fun _ _ => True) (fun _ => False) (rem := w.Tapes.length - 0) (k := 0) (s := ()) trivial (fun k _ _ hk _ => by
    unfold privityref12_ValidScenario_L1
    have hb : Lt w.S.P (w.Tapes.getD k []) := v.tb k (by have := v.tl; omega)
    rw [ix [] (by show k < w.Tapes.length; omega), bS, below_true' hb, bS, nT, cF]
    exact ⟨_, rfl, trivial⟩)
  rw [e, bS]
  cases o with
  | fin r => exact hq.elim
  | go _ => rw [oG]
def addP (p t : Nat) (f g : List Nat) : List Nat := (List.range (t + 1)).map fun i => (f.getD i 0 + g.getD i 0) % p
theorem addP_get {p t i : Nat} {f g : List Nat} (hi : i < t + 1) : (addP p t f g).getD i 0 = (f.getD i 0 + g.getD i 0) % p := by
  unfold addP; simp [List.getD_eq_getElem?_getD, hi]
theorem addP_len {p t : Nat} {f g : List Nat} : (addP p t f g).length = t + 1 := by simp [addP]
theorem addP_evl {p t : Nat} [NeZero p] {f g : List Nat} (hf : f.length ≤ t + 1) (hg : g.length ≤ t + 1) (x : Fin p) : evl (P p (addP p t f g)) x = evl (P p f) x + evl (P p g) x := by
  rw [← evl_padd]
  apply evl_congr
  intro i
  rw [cf_padd, P_cf, P_cf, P_cf]
  by_cases g2 : i < t + 1
  · rw [addP_get g2, o_mod, o_add]
  · rw [getD_ge (by rw [addP_len]; omega), getD_ge (by omega), getD_ge (by omega), o_zero]; grind
theorem sums_ok {z : T_privitylaw20_Poly} {n m : Nat} (hp : Sup z.W.S.P) (hN : z.W.S.N = n) (hm : z.F.length = m) (hn : n ≤ 13) (hm5 : m ≤ 5) {a b : List (List Nat)} (ha : a.length = n) (hb : b.length = n) (ha2 : ∀ i, i < n → Lt z.W.S.P (a.getD i []) ∧ (a.getD i []).length = m) (hb2 : ∀ i, i < n → Lt z.W.S.P (b.getD i []) ∧ (b.getD i []).length = m) :
    ∃ c, rgS (fun k1 (st : (List (List Nat))) => privitylaw20_ReconstructLinear_L0 z a b k1 st) n 0 ([] : List (List Nat)) = some c ∧ c.length = n ∧ ∀ i, i < n → Lt z.W.S.P (c.getD i []) ∧ (c.getD i []).length = m ∧ ∀ k, k < m → (c.getD i []).getD k 0 = ((a.getD i []).getD k 0 + (b.getD i []).getD k 0) % z.W.S.P := by
  have hlt := hp.lt
  obtain ⟨c, e, h1, h2⟩ := rgS_inv (body := fun k1 (st : (List (List Nat))) => privitylaw20_ReconstructLinear_L0 z a b k1 st) (rem := n) (k := 0) (s := ([] : List (List Nat)))
    (fun j l => l.length = j ∧ ∀ i, i < j → Lt z.W.S.P (l.getD i []) ∧ (l.getD i []).length = m ∧ ∀ k, k < m → (l.getD i []).getD k 0 = ((a.getD i []).getD k 0 + (b.getD i []).getD k 0) % z.W.S.P) ⟨rfl, fun i hi => by omega⟩ (fun j l _ hj ⟨h1, h2⟩ => by
      have hjn : j < n := by omega
      obtain ⟨a1, a2⟩ := ha2 j hjn
      obtain ⟨b1, b2⟩ := hb2 j hjn
      unfold privitylaw20_ReconstructLinear_L0
      rw [hm, Nat.sub_zero]
      obtain ⟨r, er, r1, r2, r3⟩ := rgS_inv (body := fun k2 (st : (List Nat)) => privitylaw20_ReconstructLinear_L1 z a b j k2 st) (rem := m) (k := 0) (s := ([] : List Nat))
        (fun k r => r.length = k ∧ Lt z.W.S.P r ∧ ∀ q, q < k → r.getD q 0 = ((a.getD j []).getD q 0 + (b.getD j []).getD q 0) % z.W.S.P) ⟨rfl, fun i hi => by simp at hi, fun q hq => by omega⟩ (fun k r _ hk ⟨r1, r2, r3⟩ => by
          have x1 := a1 k (by omega)
          have x2 := b1 k (by omega)
          have e1 : addU ((a.getD j []).getD k 0) ((b.getD j []).getD k 0) = (a.getD j []).getD k 0 + (b.getD j []).getD k 0 := Nat.mod_eq_of_lt (by omega)
          have rp : ∀ y, remU y z.W.S.P = some (y % z.W.S.P) := fun y => by unfold remU; rw [if_neg (by omega)]
          unfold privitylaw20_ReconstructLinear_L1
          rw [ix [] (by omega), bS, ix 0 (by omega), bS, ix [] (by omega), bS, ix 0 (by omega), bS, e1, bS, rp, bS, appO_some (by rw [r1]; simp; omega) (by rw [r1]; simp; omega), bS]
          refine ⟨_, rfl, by simp [r1], fun i hi => getD_app_lt (n := k) (fun i hi => r2 i (by omega)) r1 (Nat.mod_lt _ hp.pos) i (by simp at hi; omega), fun q hq => ?_⟩
          by_cases g : q < k
          · rw [getD_app_l (by omega)]; exact r3 q g
          · have : q = k := by omega
            subst this
            exact getD_app_e r1.symm)
      rw [Nat.zero_add] at r1 r3
      rw [er, bS, appO_some (by rw [h1]; simp; omega) (by rw [h1]; simp; omega), bS]
      refine ⟨_, rfl, by simp [h1], fun i hi => ?_⟩
      by_cases g : i < j
      · rw [getD_app_l (by omega)]; exact h2 i g
      · rw [getD_app_e (by omega)]
        have : i = j := by omega
        subst this
        exact ⟨r2, r1, r3⟩)
  rw [Nat.zero_add] at h1 h2
  exact ⟨c, e, h1, h2⟩
theorem none_caught {p : Nat} [NeZero p] {f0 : Nat → List Nat} {all : List (List (List Nat))} {sh : List (List Nat)} {n m j : Nat} (hj : j < n)
    (ha : ∀ i, i < n → (((i : Nat) : Int) + 1) ∉ ([] : List Int) → ∀ j, j < n → (all.getD i []).getD j [] = sh.getD i []) (hs : ∀ i, i < n → (((i : Nat) : Int) + 1) ∉ ([] : List Int) → ∀ k, k < m → o p ((sh.getD i []).getD k 0) = evl (P p (f0 k)) (o p (i + 1))) : (liars p f0 all n m j) = [] := by
  cases h : liars p f0 all n m j with
  | nil => rfl
  | cons a l =>
    have := liar_corrupt (i := a) (by rw [h]; simp) hj ha hs
    simp at this
/-- one party's check -/
theorem lin_check {z : T_privitylaw20_Poly} {n t : Nat} {x y u : List (List Nat)} {p1 p2 p3 : List (List Int)} {a1 a2 a3 : Int} {w1 w2 w3 : List (List T_api_Event)} {fa fb : Nat → List Nat} {j : Nat} [NeZero z.W.S.P] (hp : Sup z.W.S.P) (hj : j < n) (hF : z.F.length ≤ 5)
    (q4 : x.length = n) (t4 : y.length = n) (u4 : u.length = n) (q5 : p1.length = n) (t5 : p2.length = n) (u5 : p3.length = n) (l1 : p1.getD j [] = []) (l2 : p2.getD j [] = []) (l3 : p3.getD j [] = [])
    (d1 : (x.getD j []).length = z.F.length) (d3 : (y.getD j []).length = z.F.length) (d5 : (u.getD j []).length = z.F.length)
    (d2 : ∀ k, k < z.F.length → (x.getD j []).getD k 0 < z.W.S.P ∧ o z.W.S.P ((x.getD j []).getD k 0) = o z.W.S.P ((fa k).getD 0 0))
    (d4 : ∀ k, k < z.F.length → (y.getD j []).getD k 0 < z.W.S.P ∧ o z.W.S.P ((y.getD j []).getD k 0) = o z.W.S.P ((fb k).getD 0 0))
    (d6 : ∀ k, k < z.F.length → (u.getD j []).getD k 0 < z.W.S.P ∧ o z.W.S.P ((u.getD j []).getD k 0) = o z.W.S.P ((addP z.W.S.P t (fa k) (fb k)).getD 0 0)) :
    privitylaw20_ReconstructLinear_L2 z (x, p1, a1, w1) (y, p2, a2, w2) (u, p3, a3, w3) j = some (.go ()) := by
  have hlt := hp.lt
  unfold privitylaw20_ReconstructLinear_L2
  simp only
  rw [ix [] (by omega), bS, d1, qF rfl, cF, ix [] (by omega), bS, d3, qF rfl, cF, ix [] (by omega), bS, d5, qF rfl, cF, ix [] (by omega), bS, ix [] (by omega), bS, l1, l2, addI_some (by simp) (by simp), bS, ix [] (by omega), bS, l3, addI_some (by simp) (by simp), bS, dF (by simp), bS, cF, Nat.sub_zero]
  obtain ⟨o2, eo2, ho2⟩ := rgO_inv (body := fun k4 (st : Unit) => privitylaw20_ReconstructLinear_L3 z (x, p1, a1, w1) (y, p2, a2, w2) (u, p3, a3, w3) j k4) (fun _ _ => True) (fun _ => False) (rem := z.F.length) (k := 0) (s := ()) trivial (fun k _ _ hk _ => by
    have hkF : k < z.F.length := by omega
    obtain ⟨x1, x2⟩ := d2 k hkF
    obtain ⟨y1, y2⟩ := d4 k hkF
    obtain ⟨z1, z2⟩ := d6 k hkF
    have e1 : addU ((x.getD j []).getD k 0) ((y.getD j []).getD k 0) = (x.getD j []).getD k 0 + (y.getD j []).getD k 0 := Nat.mod_eq_of_lt (by omega)
    have rp : ∀ y, remU y z.W.S.P = some (y % z.W.S.P) := fun y => by unfold remU; rw [if_neg (by omega)]
    have hfin : ((x.getD j []).getD k 0 + (y.getD j []).getD k 0) % z.W.S.P = (u.getD j []).getD k 0 := by
      refine o_inj (p := z.W.S.P) (Nat.mod_lt _ hp.pos) z1 ?_
      rw [o_mod, o_add, x2, y2, z2, addP_get (by omega), o_mod, o_add]
    unfold privitylaw20_ReconstructLinear_L3
    simp only
    rw [ix [] (by omega), bS, ix 0 (by omega), bS, ix [] (by omega), bS, ix 0 (by omega), bS, e1, bS, rp, bS, ix [] (by omega), bS, ix 0 (by omega), bS, hfin, qF rfl, cF]
    exact ⟨_, rfl, trivial⟩)
  rw [eo2, bS]
  cases o2 with
  | fin _ => exact ho2.elim
  | go _ => rw [oG]
set_option maxHeartbeats 2000000 in
theorem law_Linear (z : T_privitylaw20_Poly) (g : List (List Nat)) (hK : ∀ x ∈ z.W.Deviations, x.K < 18446744073709551616) : privitylaw20_ReconstructLinear z g = some true := by
  unfold privitylaw20_ReconstructLinear
  obtain ⟨b, e, hb⟩ := small_ok hK
  rw [e, bS]
  cases b with
  | false => rw [nF, cT, bS, cT, aw20, bS]
  | true =>
    rw [nT, cF, bS]
    by_cases hg : g.length = z.F.length
    · obtain ⟨⟨n, t, v0, _⟩, hF, hO⟩ := hb rfl
      have v := calm_va v0
      have s := v.toSc
      have hp : Sup z.W.S.P := s.sup
      have hlt := hp.lt
      haveI : NeZero z.W.S.P := hp.ne
      haveI : NeZero (calm z.W).S.P := hp.ne
      haveI : NeZero (netOf (calm z.W) n).zw.S.P := hp.ne
      have h13 := s.n13
      have h3 := s.t3
      have hN : z.W.S.N = n := s.N
      obtain ⟨m, em⟩ := nets20_ok v (calm_valid v0)
      obtain ⟨sa, ea, a1, a2, a3⟩ := shared_ok (z := ⟨calm z.W, z.F, []⟩) s hF (by simp)
      obtain ⟨sb, eb, b1, b2, b3⟩ := shared_ok (z := ⟨calm z.W, g, []⟩) s (by show g.length ≤ 5; omega) (by simp)
      simp only at a1 a2 a3 b1 b2 b3
      rw [hg] at b2 b3
      obtain ⟨sc, ec, c1, c2⟩ := sums_ok (z := z) (n := n) (m := z.F.length) hp hN rfl h13 hF a1 b1 a2 b2
      have hmx : max 0 z.W.S.N.toNat = n := by rw [hN]; simp
      let fa : Nat → List Nat := fun k => cutW z.W.S.P (z.F.getD k []) (t + 1)
      let fb : Nat → List Nat := fun k => cutW z.W.S.P (g.getD k []) (t + 1)
      have hfa : ∀ k, (fa k).length ≤ t + 1 := fun k => by show (cutW _ _ _).length ≤ _; rw [cutW_len]; omega
      have hfb : ∀ k, (fb k).length ≤ t + 1 := fun k => by show (cutW _ _ _).length ≤ _; rw [cutW_len]; omega
      obtain ⟨all1, x, p1, r1, w1, ev1, q1, q2, q3, q4, q5, q6, q7, q8, q9⟩ := values_ok (net := netOf (calm z.W) n) (m := z.F.length) s a1 a2 (by omega) netOf_views.1 (fun j hj => by rw [netOf_views.2 j hj]; simp) ⟨by show (0 : Int) ≤ 0; omega, by show (0 : Int) ≤ 1000; omega⟩ fa (fun k _ => hfa k) a3
      have hw1 : ∀ j, j < n → (w1.getD j []).length ≤ 13 := fun j hj => by have := (q9 j hj).2; rw [netOf_views.2 j hj, List.length_nil] at this; omega
      have hr1 : 0 ≤ r1 ∧ r1 ≤ 1 := by rcases q3 with h | h <;> rw [h] <;> simp [netOf]
      haveI : NeZero (⟨calm z.W, r1, w1, (netOf (calm z.W) n).ztapes⟩ : T_network_Net).zw.S.P := hp.ne
      obtain ⟨all2, y, p2, r2, w2, ev2, t1, t2, t3, t4, t5, t6, t7, t8, t9⟩ := values_ok (net := ⟨calm z.W, r1, w1, (netOf (calm z.W) n).ztapes⟩) (m := z.F.length) s b1 b2 (by omega) q6 (fun j hj => by show (w1.getD j []).length ≤ 500; have := hw1 j hj; omega) ⟨by show 0 ≤ r1; omega, by show r1 ≤ 1000; omega⟩ fb (fun k _ => hfb k) b3
      have hw2 : ∀ j, j < n → (w2.getD j []).length ≤ 26 := fun j hj => by have := (t9 j hj).2; have := hw1 j hj; simp only at *; omega
      have hr2 : 0 ≤ r2 ∧ r2 ≤ 2 := by rcases t3 with h | h <;> rw [h] <;> simp <;> omega
      haveI : NeZero (⟨calm z.W, r2, w2, (netOf (calm z.W) n).ztapes⟩ : T_network_Net).zw.S.P := hp.ne
      have c3 : ∀ i, i < n → (((i : Nat) : Int) + 1) ∉ ([] : List Int) → ∀ k, k < z.F.length → o z.W.S.P ((sc.getD i []).getD k 0) = evl (P z.W.S.P (addP z.W.S.P t (fa k) (fb k))) (o z.W.S.P (i + 1)) := fun i hi hc k hk => by
        rw [(c2 i hi).2.2 k hk, o_mod, o_add, addP_evl (hfa k) (hfb k), a3 i hi hc k hk, b3 i hi hc k hk]
      obtain ⟨all3, u, p3, r3, w3, ev3, u1, u2, u3, u4, u5, u6, u7, u8, u9⟩ := values_ok (net := ⟨calm z.W, r2, w2, (netOf (calm z.W) n).ztapes⟩) (m := z.F.length) s c1 (fun i hi => ⟨(c2 i hi).1, (c2 i hi).2.1⟩) (by omega) t6 (fun j hj => by show (w2.getD j []).length ≤ 500; have := hw2 j hj; omega) ⟨by show 0 ≤ r2; omega, by show r2 ≤ 1000; omega⟩ (fun k => addP z.W.S.P t (fa k) (fb k)) (fun k _ => by rw [addP_len]; omega) c3
      rw [qF (by rw [hg]), cF, ea, bS, eb, bS, hmx, ckN_some (by omega), bS, Nat.sub_zero, ec, bS, em, bS, sR, sR, sR]
      simp only
      rw [ev1, bS]
      simp only
      have ev2' : reconstruct_Values (⟨(netOf (calm z.W) n).zw, r1, w1, (netOf (calm z.W) n).ztapes⟩ : T_network_Net) sb = some (y, p2, r2, w2) := ev2
      rw [ev2', bS]
      simp only
      have ev3' : reconstruct_Values (⟨(netOf (calm z.W) n).zw, r2, w2, (netOf (calm z.W) n).ztapes⟩ : T_network_Net) sc = some (u, p3, r3, w3) := ev3
      rw [ev3', bS]
      simp only
      rw [q4, t4, u4, q5, t5, u5, qF hN.symm, cF, cF, cF, cF, cF, bS, cF]
      obtain ⟨o1, eo, ho⟩ := rgO_inv (body := fun k3 (st : Unit) => privitylaw20_ReconstructLinear_L2 z (x, p1, r1, w1) (y, p2, r2, w2) (u, p3, r3, w3) k3) (fun _ _ => True) (fun _ => False) (rem := n) (k := 0) (s := ()) trivial (fun j _ _ hj _ => by
        have hjn : j < n := Nat.lt_of_lt_of_eq hj (Nat.zero_add n)
        have l1 : p1.getD j [] = [] := by
          have e0 : liars z.W.S.P fa all1 n z.F.length j = [] := none_caught (sh := sa) hjn (fun i hi hc => q2 i hi hc) a3
          exact (q8 j hjn).trans (show (liars z.W.S.P fa all1 n z.F.length j).map (fun i => ((i : Nat) : Int) + 1) = [] by rw [e0]; rfl)
        have l2 : p2.getD j [] = [] := by
          have e0 : liars z.W.S.P fb all2 n z.F.length j = [] := none_caught (sh := sb) hjn (fun i hi hc => t2 i hi hc) b3
          exact (t8 j hjn).trans (show (liars z.W.S.P fb all2 n z.F.length j).map (fun i => ((i : Nat) : Int) + 1) = [] by rw [e0]; rfl)
        have l3 : p3.getD j [] = [] := by
          have e0 : liars z.W.S.P (fun k => addP z.W.S.P t (fa k) (fb k)) all3 n z.F.length j = [] := none_caught (sh := sc) hjn (fun i hi hc => u2 i hi hc) c3
          exact (u8 j hjn).trans (show (liars z.W.S.P (fun k => addP z.W.S.P t (fa k) (fb k)) all3 n z.F.length j).map (fun i => ((i : Nat) : Int) + 1) = [] by rw [e0]; rfl)
        exact ⟨_, lin_check (t := t) (fa := fa) (fb := fb) hp hjn hF q4 t4 u4 q5 t5 u5 l1 l2 l3 (q7 j hjn).1 (t7 j hjn).1 (u7 j hjn).1 (q7 j hjn).2 (t7 j hjn).2 (u7 j hjn).2, trivial⟩)
      rw [eo, bS]
      cases o1 with
      | fin _ => exact ho.elim
      | go _ => rw [oG, aw20, bS]
    · rw [qT (by omega), cT, aw20, bS]
end Pu
