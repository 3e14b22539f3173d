/- Plain laws of chapter 47: recovering is linear. -/
import Derived.Test.YtclhpomlfadohaaDoorQd3
set_option linter.unusedVariables false
namespace Pu
open Gw Gl Sp Lean.Grind
def netOf (w : T_api_Scenario) (n : Nat) : T_network_Net := ⟨w, 0, List.replicate n [], List.replicate n ()⟩
theorem netOf_views {w : T_api_Scenario} {n : Nat} : (netOf w n).zviews.length = n ∧ ∀ j, j < n → ((netOf w n).zviews.getD j []) = [] := ⟨by simp [netOf], fun j hj => by simp [netOf, List.getD_eq_getElem?_getD, hj]⟩
theorem nets47_ok {w : T_api_Scenario} {n t : Nat} (v : Va w n t) (hv : privityref12_ValidScenario w = some true) : ∃ m, privitylaw47_nets w = some (.inr (.inr (.inr (netOf w n, m)))) := by
  obtain ⟨m, e⟩ := refNew_ok v hv
  unfold privitylaw47_nets
  rw [new_ok v, bS, sR, e, bS, sR]
  exact ⟨m, rfl⟩
theorem may47_ok {z : T_privitylaw47_Ask} (hK : ∀ x ∈ z.W.Deviations, x.K < 18446744073709551616) : ∃ b, privitylaw47_may z = some b ∧ (b = true → (∃ n t, Va z.W n t ∧ privityref12_ValidScenario z.W = some true) ∧ z.L.length ≤ 3 ∧ z.Spoil.length ≤ 20) := by
  unfold privitylaw47_may
  obtain ⟨b, e, hb⟩ := fair_ok (w := z.W) (lies := ((20 : Nat) : Int)) (words := ((20 : Nat) : Int)) hK (by omega) (by omega)
  rw [e, bS]
  cases b with
  | false => rw [cF]; exact ⟨_, rfl, fun h => by cases h⟩
  | true =>
    rw [cT]
    by_cases g : ((z.L.length : Nat) : Int) ≤ 3
    · rw [dT g, cT]
      refine ⟨_, rfl, fun h => ⟨hb rfl, by omega, ?_⟩⟩
      have := _root_.of_decide_eq_true h
      omega
    · rw [dF g, cF]; exact ⟨_, rfl, fun h => by cases h⟩
theorem who_ok {z : T_privitylaw47_Ask} {n : Nat} (hN : z.W.S.N = n) (h0 : 0 < n) (h13 : n ≤ 13) (hw : z.Who < 256) : privitylaw47_who z = some ((z.Who % n + 1 : Nat) : Int) ∧ z.Who % n < n := by
  have hm := Nat.mod_lt z.Who h0
  refine ⟨?_, hm⟩
  unfold privitylaw47_who
  have hu : toI ((z.Who : Nat) : Int) = z.Who := by unfold toI; omega
  have hr : remI ((z.Who : Nat) : Int) ((n : Nat) : Int) = some ((z.Who % n : Nat) : Int) := by
    unfold remI
    rw [if_neg (by omega), Int.tmod_eq_emod_of_nonneg (by omega)]; rfl
  rw [hu, bS, hN, hr, bS]
  generalize z.Who % n = q at *
  have e1 : (1 : Int) + (q : Int) = ((q + 1 : Nat) : Int) := by omega
  rw [addI_some (by omega) (by omega), bS, e1]
theorem view_ok {net : T_network_Net} {i : Nat} (hi : i < net.zviews.length) (hi2 : net.zviews.length ≤ 1000) (hb : (net.zviews.getD i []).length ≤ 1000) : network_Net_View net ((i + 1 : Nat) : Int) = some (net.zviews.getD i []) := by
  unfold network_Net_View
  have e : ((i + 1 : Nat) : Int) - 1 = (i : Int) := by omega
  rw [subI_some (by omega) (by omega), bS, e, idx_getD [] (by omega) (by omega), bS, Int.toNat_natCast, appO_some (by simp only [List.length_nil]; omega) (by simp only [List.length_nil]; omega), bS, List.nil_append]
theorem shs_of {p n t m : Nat} {out : List (List (List Nat))} (hlen : out.length = m) (h : ∀ k, k < m → (out.getD k []).length = n ∧ (∀ i, i < n → ((out.getD k []).getD i []).length = t + 1 ∧ Lt p ((out.getD k []).getD i []))) : Shs p n t out :=
  ⟨fun k hk => (h k (by omega)).1, fun k hk => (h k (by omega)).2⟩
theorem sm_swap {R : Type} [CommRing R] {n : Nat} {m : Nat} (g : Nat → Nat → R) : sm n (fun a => sm m (fun c => g a c)) = sm m (fun c => sm n (fun a => g a c)) := by
  induction n with
  | zero => simp only [sm]; rw [sm_zero (fun _ _ => rfl)]
  | succ n ih => simp only [sm]; rw [ih, ← sm_add]
theorem col_get {S : List (List Nat)} {t c a : Nat} (ha : a < t + 1) : (col S t c).getD a 0 = (S.getD a []).getD c 0 := by
  unfold col; simp [List.getD_eq_getElem?_getD, ha]
theorem col_len {S : List (List Nat)} {t c : Nat} : (col S t c).length = t + 1 := by simp [col]
/-- the polynomial is symmetric -/
theorem sym_eval {p t : Nat} [NeZero p] {S : List (List Nat)} (hs : ∀ a, a < t + 1 → ∀ b, b < t + 1 → (S.getD a []).getD b 0 = (S.getD b []).getD a 0) {f g : List Nat} {x y : Fin p} (hf : f.length = t + 1) (hg : g.length = t + 1)
    (h1 : ∀ c, c < t + 1 → o p (f.getD c 0) = evl (P p (col S t c)) x) (h2 : ∀ c, c < t + 1 → o p (g.getD c 0) = evl (P p (col S t c)) y) : evl (P p f) y = evl (P p g) x := by
  have e : ∀ (f : List Nat) (x y : Fin p), f.length = t + 1 → (∀ c, c < t + 1 → o p (f.getD c 0) = evl (P p (col S t c)) x) → evl (P p f) y = sm (t + 1) (fun c => sm (t + 1) (fun a => o p ((S.getD a []).getD c 0) * x ^ a * y ^ c)) := fun f x y hf h1 => by
    rw [evl_sm (n := t + 1) y (by rw [P_len]; omega)]
    refine sm_congr fun c hc => ?_
    rw [P_cf, h1 c hc, evl_sm (n := t + 1) x (by rw [P_len, col_len]; exact Nat.le_refl _)]
    have : sm (t + 1) (fun j => cf (P p (col S t c)) j * x ^ j) * y ^ c = y ^ c * sm (t + 1) (fun j => cf (P p (col S t c)) j * x ^ j) := by grind
    rw [this, ← sm_mul]
    refine sm_congr fun a ha => ?_
    rw [P_cf, col_get ha]; grind
  rw [e f x y hf h1, e g y x hg h2, sm_swap]
  refine sm_congr fun a ha => sm_congr fun c hc => ?_
  rw [hs a ha c hc]; grind
theorem list_ext {a b : List Nat} {n : Nat} (h1 : a.length = n) (h2 : b.length = n) (h : ∀ i, i < n → a.getD i 0 = b.getD i 0) : a = b := by
  apply List.ext_getElem?
  intro i
  by_cases g : i < n
  · rw [ix 0 (by omega), ix 0 (by omega), h i g]
  · rw [List.getElem?_eq_none (by omega), List.getElem?_eq_none (by omega)]
/-- one sharing, recovered -/
theorem one_row {z : T_privitylaw47_Ask} {n t w0 k : Nat} [NeZero z.W.S.P] (s : Sc z.W n t) (hw : w0 < n) (hc : ((List.range n).filter fun i => decide (i ≠ w0 ∧ (((i : Nat) : Int) + 1) ∈ z.W.Corrupt)).length ≤ (n - 2 - t) / 2)
    {all : List (List (List Nat))} {rows : List (List Nat)} {S : List (List Nat)} {lk : List (List Nat)} {row : List Nat}
    (hS : ∀ a, a < t + 1 → ∀ b, b < t + 1 → (S.getD a []).getD b 0 = (S.getD b []).getD a 0)
    (hR : ∀ i, i < n → (rows.getD i []).length = t + 1 ∧ Lt z.W.S.P (rows.getD i []) ∧ ∀ c, c < t + 1 → o z.W.S.P ((rows.getD i []).getD c 0) = evl (P z.W.S.P (col S t c)) (o z.W.S.P (i + 1)))
    (hlk : ∀ i, i < n → (((i : Nat) : Int) + 1) ∉ z.W.Corrupt → lk.getD i [] = rows.getD i [])
    (ha : ∀ i, i < n → i ≠ w0 → (((i : Nat) : Int) + 1) ∉ z.W.Corrupt → o z.W.S.P (((all.getD i []).getD w0 []).getD k 0) = evl (P z.W.S.P (lk.getD i [])) (o z.W.S.P (w0 + 1)))
    {pts : List T_api_Point} {f : List Nat} {at_ : List Int} {e : Int} (hP : Pts z.W.S.P pts) (p1 : pts.length = n - 1) (p2 : ∀ q, q < n - 1 → pts.getD q default = ⟨oth w0 q + 1, ((all.getD (oth w0 q) []).getD w0 []).getD k 0⟩)
    (hd : reedsolomon_Decode z.W.S.P pts ((t : Nat) : Int) (((n - 2 - t) / 2 : Nat) : Int) = some (f, at_, e)) (hr1 : row.length = t + 1) (hr2 : ∀ c, c < t + 1 → row.getD c 0 = if e = 0 then f.getD c 0 else 0) : row = rows.getD w0 [] := by
  have hp := s.sup
  have h13 := s.n13
  have h3 := s.t3
  have h1t := s.t1
  obtain ⟨g1, g2, g3⟩ := hR w0 hw
  have ho : ∀ q, q < n - 1 → oth w0 q < n ∧ oth w0 q ≠ w0 := fun q hq => by unfold oth; split <;> omega
  obtain ⟨f', at', e', ed, f1, f2, _, hgood⟩ := decode_ok (deg := t) (w := (n - 2 - t) / 2) hp hP (by omega) (by omega)
  rw [hd] at ed
  have hq := Option.some.inj ed
  obtain ⟨rfl, hq2⟩ := Prod.mk.inj hq
  obtain ⟨rfl, rfl⟩ := Prod.mk.inj hq2
  have hwr : (wrongs z.W.S.P pts (rows.getD w0 [])).length ≤ (n - 2 - t) / 2 := by
    refine Nat.le_trans ?_ hc
    rw [← List.length_map (f := fun q => ((oth w0 q : Nat) : Int)), ← List.length_map (f := fun i => ((i : Nat) : Int)) (as := (List.range n).filter _)]
    refine sub_len ?_ fun x hx => ?_
    · rw [List.Nodup, List.pairwise_map]
      refine List.Pairwise.imp (fun {a b} h => ?_) (List.Pairwise.filter _ List.nodup_range)
      unfold oth
      intro e
      split at e <;> split at e <;> omega
    · obtain ⟨q, hq, rfl⟩ := List.mem_map.1 hx
      have hq' := List.mem_filter.1 hq
      have hqn : q < n - 1 := by have := hq'.1; rw [p1] at this; simpa using this
      obtain ⟨o1, o2⟩ := ho q hqn
      refine List.mem_map.2 ⟨oth w0 q, List.mem_filter.2 ⟨by simpa using o1, decide_eq_true ⟨o2, ?_⟩⟩, rfl⟩
      apply Classical.byContradiction
      intro hcor
      have hd2 := hq'.2
      simp only [decide_eq_true_eq] at hd2
      apply hd2
      rw [p2 q hqn]
      show evl _ (o _ (oth w0 q + 1)) = o _ _
      rw [ha _ o1 o2 hcor, hlk _ o1 hcor]
      exact sym_eval hS g1 (hR _ o1).1 g3 (hR _ o1).2.2
  obtain ⟨he, hcf, _⟩ := hgood (rows.getD w0 []) (by omega) hwr
  refine list_ext hr1 g1 fun c hc => ?_
  rw [hr2 c hc, if_pos he]
  exact o_inj (p := z.W.S.P) (f1.get hp.pos c) (g2.get hp.pos c) (hcf c)
/-- the table of the sums -/
def sumT (t : Nat) (S1 S2 : List (List Nat)) : List (List Nat) := (List.range (t + 1)).map fun a => (List.range (t + 1)).map fun b => (S1.getD a []).getD b 0 + (S2.getD a []).getD b 0
theorem sumT_get {t : Nat} {S1 S2 : List (List Nat)} {a b : Nat} (ha : a < t + 1) (hb : b < t + 1) : ((sumT t S1 S2).getD a []).getD b 0 = (S1.getD a []).getD b 0 + (S2.getD a []).getD b 0 := by
  unfold sumT; simp [List.getD_eq_getElem?_getD, ha, hb]
theorem sumT_evl {p t : Nat} [NeZero p] {S1 S2 : List (List Nat)} {c : Nat} (hc : c < t + 1) (x : Fin p) : evl (P p (col (sumT t S1 S2) t c)) x = evl (P p (col S1 t c)) x + evl (P p (col S2 t c)) x := by
  have h : ∀ S : List (List Nat), evl (P p (col S t c)) x = sm (t + 1) (fun a => o p ((S.getD a []).getD c 0) * x ^ a) := fun S => by
    rw [evl_sm (n := t + 1) x (by rw [P_len, col_len]; exact Nat.le_refl _)]
    exact sm_congr fun a ha => by rw [P_cf, col_get ha]
  rw [h, h, h, ← sm_add]
  refine sm_congr fun a ha => ?_
  rw [sumT_get ha hc, o_add]; grind
theorem law_RLinear (z : T_privitylaw47_Ask) (hW : z.Who < 256) (hb : ∀ l ∈ z.L, l.length ≤ 140737488355328) : privitylaw47_RecoveryLinear z = some true := by
  unfold privitylaw47_RecoveryLinear
  obtain ⟨b, e, hbt⟩ := may47_ok (z := ⟨⟨z.W.S, [], [], z.W.Tapes⟩, z.Who, z.L, []⟩) (fun x hx => nomatch hx)
  rw [e, bS]
  cases b with
  | false => rw [nF, cT, bS, cT, aw47, bS]
  | true =>
    obtain ⟨⟨n, t, v, hv⟩, hL, hS⟩ := hbt rfl
    have s := v.toSc
    have hp : Sup z.W.S.P := s.sup
    haveI : NeZero z.W.S.P := hp.ne
    haveI : NeZero (netOf ⟨z.W.S, [], [], z.W.Tapes⟩ n).zw.S.P := hp.ne
    have h13 := s.n13
    have h4 := s.n4
    have h3 := s.t3
    have h1t := s.t1
    have hN : z.W.S.N = n := s.N
    have hT : z.W.S.T = t := s.T
    have hL' : z.L.length ≤ 3 := hL
    have hplt := hp.lt
    rw [nT, cF, bS]
    by_cases g2 : z.L.length = 2
    · obtain ⟨m, em⟩ := nets47_ok v hv
      obtain ⟨ew, hw⟩ := who_ok (z := ⟨⟨z.W.S, [], [], z.W.Tapes⟩, z.Who, z.L, []⟩) s.N (by omega) h13 hW
      obtain ⟨l, el, l1, l2⟩ := numbers_ok (z := ⟨⟨z.W.S, [], [], z.W.Tapes⟩, z.Who, z.L, []⟩) s v.par hL (by simp) hb
      replace l1 : l.length = z.L.length := l1
      replace hw : z.Who % n < n := hw
      have l2' : ∀ k, k < 2 → (l.getD k []).length = n ∧ ∃ S, (∀ a, a < t + 1 → ∀ b, b < t + 1 → (S.getD a []).getD b 0 = (S.getD b []).getD a 0) ∧ ∀ i, i < n → ((l.getD k []).getD i []).length = t + 1 ∧ Lt z.W.S.P ((l.getD k []).getD i []) ∧ ∀ c, c < t + 1 → o z.W.S.P (((l.getD k []).getD i []).getD c 0) = evl (P z.W.S.P (col S t c)) (o z.W.S.P (i + 1)) := fun k hk => by
        have hkL : k < z.L.length := by omega
        obtain ⟨a1, a2, rs, ers, h5⟩ := l2 k hkL
        obtain ⟨rows2, S, er2, q1, _, q3, q4⟩ := sharing_ok (n := n) (t := t) v.par (secret := secOf (z.L.getD k [])) (words := (z.L.getD k []).drop 1) (by
            have := hb (z.L.getD k []) (by rw [List.getD_eq_getElem?_getD, List.getElem?_eq_getElem hkL]; exact List.getElem_mem hkL)
            rw [List.length_drop]; omega)
        have hrs2 : rows2 = rs := Option.some.inj (er2.symm.trans ers)
        subst hrs2
        refine ⟨a1, S, q3, fun i hi => ?_⟩
        rw [h5 i hi (.inr rfl)]
        exact q4 i hi
      replace ew : privitylaw47_who ⟨⟨z.W.S, [], [], z.W.Tapes⟩, z.Who, z.L, []⟩ = some ((z.Who % n + 1 : Nat) : Int) := ew
      generalize z.Who % n = w0 at *
      obtain ⟨A, hA⟩ : ∃ A, A = l.getD 0 [] := ⟨_, rfl⟩
      obtain ⟨B, hB⟩ : ∃ B, B = l.getD 1 [] := ⟨_, rfl⟩
      obtain ⟨A1, SA, A2, A3⟩ := l2' 0 (by omega)
      obtain ⟨B1, SB, B2, B3⟩ := l2' 1 (by omega)
      rw [← hA] at A1 A3
      rw [← hB] at B1 B3
      have hmN : max 0 z.W.S.N.toNat = n := by rw [hN]; omega
      have hmT : max 0 (z.W.S.T + 1).toNat = t + 1 := by rw [hT]; omega
      obtain ⟨C, eC, C1, C2⟩ := rgS_inv (body := fun k1 (st : (List (List Nat))) => privitylaw47_RecoveryLinear_L0 z l k1 st) (rem := n) (k := 0) (s := ([] : List (List Nat)))
        (fun k r => r.length = k ∧ ∀ i, i < k → (r.getD i []).length = t + 1 ∧ ∀ c, c < t + 1 → (r.getD i []).getD c 0 = ((A.getD i []).getD c 0 + (B.getD i []).getD c 0) % z.W.S.P) ⟨rfl, fun q hq => by omega⟩ (fun i r _ hi ⟨r1, r2⟩ => by
          have hin : i < n := by omega
          obtain ⟨a1, a2, _⟩ := A3 i hin
          obtain ⟨b1, b2, _⟩ := B3 i hin
          unfold privitylaw47_RecoveryLinear_L0
          rw [hmT, ckN_some (by omega), bS, Nat.sub_zero]
          obtain ⟨q, eq, q1, q2⟩ := rgS_inv (body := fun k2 (st : (List Nat)) => privitylaw47_RecoveryLinear_L1 z l i k2 st) (rem := t + 1) (k := 0) (s := ([] : List Nat))
            (fun k q => q.length = k ∧ ∀ c, c < k → q.getD c 0 = ((A.getD i []).getD c 0 + (B.getD i []).getD c 0) % z.W.S.P) ⟨rfl, fun q hq => by omega⟩ (fun c q _ hc ⟨q1, q2⟩ => by
              have hct : c < t + 1 := by omega
              have u1 := a2 c (by omega)
              have u2 := b2 c (by omega)
              unfold privitylaw47_RecoveryLinear_L1
              rw [ix [] (by omega), bS, ← hA, ix [] (by omega), bS, ix 0 (by omega), bS, ix [] (by omega), bS, ← hB, ix [] (by omega), bS, ix 0 (by omega), bS, refAdd_ok hp (by omega), bS, appO_some (by rw [q1]; simp only [List.length_cons, List.length_nil]; omega) (by rw [q1]; simp only [List.length_cons, List.length_nil]; omega), bS]
              refine ⟨_, rfl, by rw [List.length_append, q1]; rfl, fun d hd => ?_⟩
              by_cases g : d < c
              · rw [getD_app_l (by omega)]; exact q2 d g
              · have : d = c := by omega
                subst this
                rw [getD_app_e q1.symm])
          rw [Nat.zero_add] at q1 q2
          rw [eq, bS, appO_some (by rw [r1]; simp only [List.length_cons, List.length_nil]; omega) (by rw [r1]; simp only [List.length_cons, List.length_nil]; omega), bS]
          refine ⟨_, rfl, by rw [List.length_append, r1]; rfl, fun d hd => ?_⟩
          by_cases g : d < i
          · rw [getD_app_l (by omega)]; exact r2 d g
          · have : d = i := by omega
            subst this
            rw [getD_app_e r1.symm]
            exact ⟨q1, q2⟩)
      rw [Nat.zero_add] at C1 C2
      rw [qF (by omega), cF, em, bS, sR, sR, sR, el, bS, hmN, ckN_some (by omega), bS, Nat.sub_zero, eC, bS, ew, bS, ix [] (by omega), bS, ix [] (by omega), bS, ← hA, ← hB]
      have C3 : ∀ i, i < n → (C.getD i []).length = t + 1 ∧ Lt z.W.S.P (C.getD i []) ∧ ∀ c, c < t + 1 → o z.W.S.P ((C.getD i []).getD c 0) = evl (P z.W.S.P (col (sumT t SA SB) t c)) (o z.W.S.P (i + 1)) := fun i hi => by
        obtain ⟨c1, c2⟩ := C2 i hi
        refine ⟨c1, fun c hc => ?_, fun c hc => ?_⟩
        · rw [c2 c (by omega)]; exact Nat.mod_lt _ hp.pos
        · rw [c2 c hc, o_mod, o_add, (A3 i hi).2.2 c hc, (B3 i hi).2.2 c hc, sumT_evl hc]
      have shs : Shs z.W.S.P n t [A, B, C] := by
        refine shs_of (m := 3) rfl fun k hk => ?_
        have : k = 0 ∨ k = 1 ∨ k = 2 := by omega
        rcases this with rfl | rfl | rfl
        · exact ⟨A1, fun i hi => ⟨(A3 i hi).1, (A3 i hi).2.1⟩⟩
        · exact ⟨B1, fun i hi => ⟨(B3 i hi).1, (B3 i hi).2.1⟩⟩
        · exact ⟨C1, fun i hi => ⟨(C3 i hi).1, (C3 i hi).2.1⟩⟩
      obtain ⟨all, rows, views, er, r1, _, _, _, _, r5, r6⟩ := recover_ok (net := netOf ⟨z.W.S, [], [], z.W.Tapes⟩ n) (w0 := w0) s (l := [A, B, C]) shs (by show 1 ≤ 3; omega) (by show 3 ≤ 3; omega) hw netOf_views.1 (fun j hj => by rw [netOf_views.2 j hj]; simp) ⟨by show (0 : Int) ≤ 0; omega, by show (0 : Int) ≤ 1000; omega⟩
      replace r1 : rows.length = 3 := r1
      have hfl : ((List.range n).filter fun i => decide (i ≠ w0 ∧ (((i : Nat) : Int) + 1) ∈ ([] : List Int))).length ≤ (n - 2 - t) / 2 := by
        rw [List.filter_eq_nil_iff.2 (fun i _ => by simp)]; exact Nat.zero_le _
      have one : ∀ k, k < 3 → ∀ X S, [A, B, C].getD k [] = X → (∀ a, a < t + 1 → ∀ b, b < t + 1 → (S.getD a []).getD b 0 = (S.getD b []).getD a 0) → (∀ i, i < n → (X.getD i []).length = t + 1 ∧ Lt z.W.S.P (X.getD i []) ∧ ∀ c, c < t + 1 → o z.W.S.P ((X.getD i []).getD c 0) = evl (P z.W.S.P (col S t c)) (o z.W.S.P (i + 1))) → rows.getD k [] = X.getD w0 [] := fun k hk X S hX h1 h2 => by
        obtain ⟨pts, f, at_, e, row, hP, p1, p2, hd, hrow, hr1, hr2⟩ := r6 k hk
        rw [hrow]
        exact one_row (z := ⟨⟨z.W.S, [], [], z.W.Tapes⟩, z.Who, z.L, []⟩) (k := k) (lk := X) s hw hfl h1 h2 (fun i hi _ => rfl) (fun i hi hne hcor => by have := (r5 i hi hne hcor).2 k hk; rw [hX] at this; exact this) hP p1 p2 hd hr1 hr2
      have o1 := one 0 (by omega) A SA rfl A2 A3
      have o2 := one 1 (by omega) B SB rfl B2 B3
      have o3 := one 2 (by omega) C (sumT t SA SB) rfl (fun a ha b hb => by rw [sumT_get ha hb, sumT_get hb ha, A2 a ha b hb, B2 a ha b hb]) C3
      rw [er, bS]
      simp only
      rw [r1, qF (a := ((3 : Nat) : Int)) (by omega), cF, hmT, ckN_some (by omega), bS, Nat.sub_zero]
      obtain ⟨a1, a2, _⟩ := A3 w0 hw
      obtain ⟨b1, b2, _⟩ := B3 w0 hw
      obtain ⟨c1, c2⟩ := C2 w0 hw
      have et : (t : Int) + 1 = ((t + 1 : Nat) : Int) := by omega
      obtain ⟨r', eo, ho⟩ := rgO_inv (body := fun k3 (st : Unit) => privitylaw47_RecoveryLinear_L2 z (rows, (netOf ⟨z.W.S, [], [], z.W.Tapes⟩ n).zround + 1, views) k3) (fun _ _ => True) (fun _ => False) (rem := t + 1) (k := 0) (s := ()) trivial (fun c _ _ hc _ => by
        have hct : c < t + 1 := by omega
        have u1 := a2 c (by omega)
        have u2 := b2 c (by omega)
        unfold privitylaw47_RecoveryLinear_L2
        simp only
        rw [ix [] (by omega), bS, o1, hT, addI_some (by omega) (by omega), bS, et, qF (by omega), cF, ix [] (by omega), bS, o2, qF (by omega), cF, ix [] (by omega), bS, o3, qF (by omega), cF, ix 0 (by omega), bS, ix 0 (by omega), bS, ix 0 (by omega), bS, refAdd_ok hp (by omega), bS, c2 c hct, qF rfl, cF]
        exact ⟨_, rfl, trivial⟩)
      rw [eo, bS]
      cases r' with
      | fin _ => exact ho.elim
      | go _ => rw [oG, aw47, bS]
    · rw [qT (by omega), cT, aw47, bS]
end Pu
