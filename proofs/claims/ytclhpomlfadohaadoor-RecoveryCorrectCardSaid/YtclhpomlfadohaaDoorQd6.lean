/- Plain laws of chapter 47: the recovered rows are the right ones. -/
import Derived.Test.YtclhpomlfadohaaDoorQd5
set_option linter.unusedVariables false
namespace Pu
open Gw Gl Sp Lean.Grind
theorem sm_swap {R : Type} [CommRing R] {n : Nat} {m : Nat} (g : Nat → Nat → R) : sm n (fun a => sm m (fun c => g a c)) = sm m (fun c => sm n (fun a => g a c)) := by
  induction n with
  | zero => simp only [sm]; rw [sm_zero (fun _ _ => rfl)]
  | succ n ih => simp only [sm]; rw [ih, ← sm_add]
theorem col_get {S : List (List Nat)} {t c a : Nat} (ha : a < t + 1) : (col S t c).getD a 0 = (S.getD a []).getD c 0 := by
  unfold col; simp [List.getD_eq_getElem?_getD, ha]
theorem col_len {S : List (List Nat)} {t c : Nat} : (col S t c).length = t + 1 := by simp [col]
/-- the polynomial is symmetric -/
theorem sym_eval {p t : Nat} [NeZero p] {S : List (List Nat)} (hs : ∀ a, a < t + 1 → ∀ b, b < t + 1 → (S.getD a []).getD b 0 = (S.getD b []).getD a 0) {f g : List Nat} {x y : Fin p} (hf : f.length = t + 1) (hg : g.length = t + 1)
    (h1 : ∀ c, c < t + 1 → o p (f.getD c 0) = evl (P p (col S t c)) x) (h2 : ∀ c, c < t + 1 → o p (g.getD c 0) = evl (P p (col S t c)) y) : evl (P p f) y = evl (P p g) x := by
  have e : ∀ (f : List Nat) (x y : Fin p), f.length = t + 1 → (∀ c, c < t + 1 → o p (f.getD c 0) = evl (P p (col S t c)) x) → evl (P p f) y = sm (t + 1) (fun c => sm (t + 1) (fun a => o p ((S.getD a []).getD c 0) * x ^ a * y ^ c)) := fun f x y hf h1 => by
    rw [evl_sm (n := t + 1) y (by rw [P_len]; omega)]
    refine sm_congr fun c hc => ?_
    rw [P_cf, h1 c hc, evl_sm (n := t + 1) x (by rw [P_len, col_len]; exact Nat.le_refl _)]
    have : sm (t + 1) (fun j => cf (P p (col S t c)) j * x ^ j) * y ^ c = y ^ c * sm (t + 1) (fun j => cf (P p (col S t c)) j * x ^ j) := by grind
    rw [this, ← sm_mul]
    refine sm_congr fun a ha => ?_
    rw [P_cf, col_get ha]; grind
  rw [e f x y hf h1, e g y x hg h2, sm_swap]
  refine sm_congr fun a ha => sm_congr fun c hc => ?_
  rw [hs a ha c hc]; grind
/-- the corrupted parties but one -/
theorem others_ok {z : T_privitylaw47_Ask} {n w0 : Nat} (hN : z.W.S.N = n) (h0 : 0 < n) (h13 : n ≤ 13) (hw : privitylaw47_who z = some ((w0 + 1 : Nat) : Int)) :
    privitylaw47_others z = some ((((List.range n).filter fun i => decide (i ≠ w0 ∧ (((i : Nat) : Int) + 1) ∈ z.W.Corrupt)).length : Nat) : Int) := by
  unfold privitylaw47_others
  have hm : max 1 (z.W.S.N + 1).toNat = n + 1 := by rw [hN]; omega
  rw [hm, ckN_some (by omega), bS, Nat.add_sub_cancel]
  obtain ⟨x, e, h⟩ := rgS_inv (body := fun k1 (st : Int) => privitylaw47_others_L0 z k1 st) (rem := n) (k := 1) (s := ((0 : Nat) : Int))
    (fun j x => ∃ i, j = i + 1 ∧ x = ((((List.range i).filter fun i => decide (i ≠ w0 ∧ (((i : Nat) : Int) + 1) ∈ z.W.Corrupt)).length : Nat) : Int)) ⟨0, rfl, rfl⟩ (fun j x hj1 hj ⟨i, hi, hx⟩ => by
      subst hi
      subst hx
      have hll : ((List.range i).filter fun i => decide (i ≠ w0 ∧ (((i : Nat) : Int) + 1) ∈ z.W.Corrupt)).length ≤ i := Nat.le_trans (List.length_filter_le ..) (by simp)
      have ec : ((i + 1 : Nat) : Int) = (i : Int) + 1 := by omega
      have hstep : ((List.range (i + 1)).filter fun i => decide (i ≠ w0 ∧ (((i : Nat) : Int) + 1) ∈ z.W.Corrupt)).length = ((List.range i).filter fun i => decide (i ≠ w0 ∧ (((i : Nat) : Int) + 1) ∈ z.W.Corrupt)).length + if i ≠ w0 ∧ (((i : Nat) : Int) + 1) ∈ z.W.Corrupt then 1 else 0 := by
        rw [List.range_succ, List.filter_append, List.length_append]
        congr 1
        by_cases g : i ≠ w0 ∧ (((i : Nat) : Int) + 1) ∈ z.W.Corrupt
        · rw [if_pos g]; simp only [List.filter_cons, decide_eq_true g, List.filter_nil]; simp
        · rw [if_neg g]; simp only [List.filter_cons, decide_eq_false g, List.filter_nil]; simp
      generalize ((List.range i).filter fun i => decide (i ≠ w0 ∧ (((i : Nat) : Int) + 1) ∈ z.W.Corrupt)).length = L at *
      unfold privitylaw47_others_L0
      rw [hw, bS]
      by_cases g : i = w0
      · rw [qF (by omega), cF]
        refine ⟨_, rfl, i + 1, rfl, ?_⟩
        rw [hstep, if_neg (fun h => h.1 g)]; rfl
      · rw [qT (by omega), cT, honest_ok, bS]
        by_cases c : ((i + 1 : Nat) : Int) ∈ z.W.Corrupt
        · rw [dF (fun h => h c), nF, cT, addI_some (by omega) (by omega), bS]
          refine ⟨_, rfl, i + 1, rfl, ?_⟩
          rw [hstep, if_pos ⟨g, by rw [← ec]; exact c⟩]; omega
        · rw [dT c, nT, cF]
          refine ⟨_, rfl, i + 1, rfl, ?_⟩
          rw [hstep, if_neg (fun h => c (by rw [ec]; exact h.2))]; rfl)
  obtain ⟨i, hi, hx⟩ := h
  have : i = n := by omega
  subst this
  rw [e, bS, hx]
theorem list_ext {a b : List Nat} {n : Nat} (h1 : a.length = n) (h2 : b.length = n) (h : ∀ i, i < n → a.getD i 0 = b.getD i 0) : a = b := by
  apply List.ext_getElem?
  intro i
  by_cases g : i < n
  · rw [ix 0 (by omega), ix 0 (by omega), h i g]
  · rw [List.getElem?_eq_none (by omega), List.getElem?_eq_none (by omega)]
/-- one sharing, recovered -/
theorem one_row {z : T_privitylaw47_Ask} {n t w0 k : Nat} [NeZero z.W.S.P] (s : Sc z.W n t) (hw : w0 < n) (hc : ((List.range n).filter fun i => decide (i ≠ w0 ∧ (((i : Nat) : Int) + 1) ∈ z.W.Corrupt)).length ≤ (n - 2 - t) / 2)
    {all : List (List (List Nat))} {rows : List (List Nat)} {S : List (List Nat)} {lk : List (List Nat)} {row : List Nat}
    (hS : ∀ a, a < t + 1 → ∀ b, b < t + 1 → (S.getD a []).getD b 0 = (S.getD b []).getD a 0)
    (hR : ∀ i, i < n → (rows.getD i []).length = t + 1 ∧ Lt z.W.S.P (rows.getD i []) ∧ ∀ c, c < t + 1 → o z.W.S.P ((rows.getD i []).getD c 0) = evl (P z.W.S.P (col S t c)) (o z.W.S.P (i + 1)))
    (hlk : ∀ i, i < n → (((i : Nat) : Int) + 1) ∉ z.W.Corrupt → lk.getD i [] = rows.getD i [])
    (ha : ∀ i, i < n → i ≠ w0 → (((i : Nat) : Int) + 1) ∉ z.W.Corrupt → o z.W.S.P (((all.getD i []).getD w0 []).getD k 0) = evl (P z.W.S.P (lk.getD i [])) (o z.W.S.P (w0 + 1)))
    {pts : List T_api_Point} {f : List Nat} {at_ : List Int} {e : Int} (hP : Pts z.W.S.P pts) (p1 : pts.length = n - 1) (p2 : ∀ q, q < n - 1 → pts.getD q default = ⟨oth w0 q + 1, ((all.getD (oth w0 q) []).getD w0 []).getD k 0⟩)
    (hd : reedsolomon_Decode z.W.S.P pts ((t : Nat) : Int) (((n - 2 - t) / 2 : Nat) : Int) = some (f, at_, e)) (hr1 : row.length = t + 1) (hr2 : ∀ c, c < t + 1 → row.getD c 0 = if e = 0 then f.getD c 0 else 0) : row = rows.getD w0 [] := by
  have hp := s.sup
  have h13 := s.n13
  have h3 := s.t3
  have h1t := s.t1
  obtain ⟨g1, g2, g3⟩ := hR w0 hw
  have ho : ∀ q, q < n - 1 → oth w0 q < n ∧ oth w0 q ≠ w0 := fun q hq => by unfold oth; split <;> omega
  obtain ⟨f', at', e', ed, f1, f2, _, hgood⟩ := decode_ok (deg := t) (w := (n - 2 - t) / 2) hp hP (by omega) (by omega)
  rw [hd] at ed
  have hq := Option.some.inj ed
  obtain ⟨rfl, hq2⟩ := Prod.mk.inj hq
  obtain ⟨rfl, rfl⟩ := Prod.mk.inj hq2
  have hwr : (wrongs z.W.S.P pts (rows.getD w0 [])).length ≤ (n - 2 - t) / 2 := by
    refine Nat.le_trans ?_ hc
    rw [← List.length_map (f := fun q => ((oth w0 q : Nat) : Int)), ← List.length_map (f := fun i => ((i : Nat) : Int)) (as := (List.range n).filter _)]
    refine sub_len ?_ fun x hx => ?_
    · rw [List.Nodup, List.pairwise_map]
      refine List.Pairwise.imp (fun {a b} h => ?_) (List.Pairwise.filter _ List.nodup_range)
      unfold oth
      intro e
      split at e <;> split at e <;> omega
    · obtain ⟨q, hq, rfl⟩ := List.mem_map.1 hx
      have hq' := List.mem_filter.1 hq
      have hqn : q < n - 1 := by have := hq'.1; rw [p1] at this; simpa using this
      obtain ⟨o1, o2⟩ := ho q hqn
      refine List.mem_map.2 ⟨oth w0 q, List.mem_filter.2 ⟨by simpa using o1, decide_eq_true ⟨o2, ?_⟩⟩, rfl⟩
      apply Classical.byContradiction
      intro hcor
      have hd2 := hq'.2
      simp only [decide_eq_true_eq] at hd2
      apply hd2
      rw [p2 q hqn]
      show evl _ (o _ (oth w0 q + 1)) = o _ _
      rw [ha _ o1 o2 hcor, hlk _ o1 hcor]
      exact sym_eval hS g1 (hR _ o1).1 g3 (hR _ o1).2.2
  obtain ⟨he, hcf, _⟩ := hgood (rows.getD w0 []) (by omega) hwr
  refine list_ext hr1 g1 fun c hc => ?_
  rw [hr2 c hc, if_pos he]
  exact o_inj (p := z.W.S.P) (f1.get hp.pos c) (g2.get hp.pos c) (hcf c)
theorem law_Correct (z : T_privitylaw47_Ask) (hK : ∀ x ∈ z.W.Deviations, x.K < 18446744073709551616) (hW : z.Who < 256) (hb : ∀ l ∈ z.L, l.length ≤ 140737488355328) : privitylaw47_RecoveryCorrect z = some true := by
  unfold privitylaw47_RecoveryCorrect
  obtain ⟨b, e, hbt⟩ := may47_ok hK
  rw [e, bS]
  cases b with
  | false => rw [nF, cT, bS, cT, aw47, bS]
  | true =>
    obtain ⟨⟨n, t, v, hv⟩, hL, hS⟩ := hbt rfl
    have s := v.toSc
    have hp := s.sup
    haveI : NeZero z.W.S.P := hp.ne
    haveI : NeZero (netOf z.W n).zw.S.P := hp.ne
    have h13 := s.n13
    have h4 := s.n4
    have h3 := s.t3
    have h1t := s.t1
    obtain ⟨m, em⟩ := nets47_ok v hv
    obtain ⟨ew, hw⟩ := who_ok (z := z) s.N (by omega) h13 hW
    have eo := others_ok (z := z) s.N (by omega) h13 ew
    obtain ⟨l, el, l1, l2⟩ := numbers_ok s v.par hL hS hb
    obtain ⟨l', el', l1', l2'⟩ := numbers_ok (z := ⟨z.W, z.Who, z.L, []⟩) s v.par hL (by simp) hb
    generalize z.Who % n = w0 at *
    have e2 : (n : Int) - 2 = ((n - 2 : Nat) : Int) := by omega
    have e3 : ((n - 2 : Nat) : Int) - (t : Int) = ((n - 2 - t : Nat) : Int) := by omega
    have e4 : divI ((n - 2 - t : Nat) : Int) (2 : Int) = some (((n - 2 - t) / 2 : Nat) : Int) := divI_ok (b := 2) (by decide) (by omega)
    have ewi : ((w0 + 1 : Nat) : Int) - 1 = (w0 : Int) := by omega
    rw [nT, cF, eo, bS, s.N, subI_some (by omega) (by omega), bS, e2, s.T, subI_some (by omega) (by omega), bS, e3, e4, bS, bS]
    by_cases hc : ((List.range n).filter fun i => decide (i ≠ w0 ∧ (((i : Nat) : Int) + 1) ∈ z.W.Corrupt)).length ≤ (n - 2 - t) / 2
    · have key : ∃ rows r views, recovery_RecoverRows (netOf z.W n) ((w0 + 1 : Nat) : Int) l = some (rows, r, views) ∧ rows.length = z.L.length ∧ ∀ k, k < z.L.length → rows.getD k [] = (l'.getD k []).getD w0 [] := by
        by_cases hl0 : z.L.length = 0
        · unfold recovery_RecoverRows
          rw [eT (by omega), cT]
          exact ⟨_, _, _, rfl, by simp [hl0], fun k hk => by omega⟩
        · obtain ⟨all, rows, views, er, r1, _, _, _, _, r5, r6⟩ := recover_ok (net := netOf z.W n) (w0 := w0) s (shs_of l1 (fun k hk => ⟨(l2 k hk).1, (l2 k hk).2.1⟩)) (by omega) (by omega) hw netOf_views.1 (fun j hj => by rw [netOf_views.2 j hj]; simp) ⟨by show (0 : Int) ≤ 0; omega, by show (0 : Int) ≤ 1000; omega⟩
          refine ⟨rows, _, views, er, by omega, fun k hk => ?_⟩
          obtain ⟨pts, f, at_, e, row, hP, p1, p2, hd, hrow, hr1, hr2⟩ := r6 k (by omega)
          obtain ⟨rs, ers, h5⟩ := (l2 k hk).2.2
          obtain ⟨rs', ers', h5'⟩ := (l2' k hk).2.2
          have hrs : rs' = rs := Option.some.inj (ers'.symm.trans ers)
          obtain ⟨rows2, S, er2, q1, _, q3, q4⟩ := sharing_ok (n := n) (t := t) v.par (secret := secOf (z.L.getD k [])) (words := (z.L.getD k []).drop 1) (by
            have := hb (z.L.getD k []) (by rw [List.getD_eq_getElem?_getD, List.getElem?_eq_getElem hk]; exact List.getElem_mem hk)
            rw [List.length_drop]; omega)
          have hrs2 : rows2 = rs := Option.some.inj (er2.symm.trans ers)
          subst hrs2
          subst hrs
          rw [h5' w0 hw (.inr rfl), hrow]
          exact one_row (z := z) (k := k) (lk := l.getD k []) s hw hc q3 q4 (fun i hi hcor => h5 i hi (.inl hcor)) (fun i hi hne hcor => (r5 i hi hne hcor).2 k (by omega)) hP p1 p2 hd hr1 hr2
      obtain ⟨rows, r, views, er, k1, k2⟩ := key
      rw [dF (by omega), cF, em, bS, sR, sR, sR, el', bS, ew, bS, el, bS, er, bS]
      simp only
      rw [k1, l1', qF rfl, cF, Nat.sub_zero]
      obtain ⟨o1, eo1, ho⟩ := rgO_inv (body := fun k1 (st : Unit) => privitylaw47_RecoveryCorrect_L0 l' ((w0 + 1 : Nat) : Int) (rows, r, views) k1) (fun _ _ => True) (fun _ => False) (rem := z.L.length) (k := 0) (s := ()) trivial (fun k _ _ hk _ => by
        have hkL : k < z.L.length := by omega
        have a1 := (l2' k hkL).1
        have l1'' : l'.length = z.L.length := l1'
        unfold privitylaw47_RecoveryCorrect_L0
        simp only
        rw [ix [] (by omega), bS, ix [] (by omega), bS, subI_some (by omega) (by omega), bS, ewi, idx_getD [] (by omega) (by omega), bS, Int.toNat_natCast, k2 k hkL, words_refl, bS, nT, cF]
        exact ⟨_, rfl, trivial⟩)
      rw [eo1, bS]
      cases o1 with
      | fin _ => exact ho.elim
      | go _ => rw [oG, aw47, bS]
    · rw [dT (by omega), cT, aw47, bS]
end Pu
