/- Plain laws of scenarios: what the reference calls valid the program calls valid, and the networks stand. -/
import Derived.Test.YtclhpomlfadohaaGreatDoorPb6
set_option linter.unusedVariables false
namespace Pu
open Gw Gl Sp
structure Va (w : T_api_Scenario) (n t : Nat) : Prop extends Sc w n t where
  ord : ∀ i, 0 < i → i < w.Corrupt.length → w.Corrupt.getD (i - 1) 0 < w.Corrupt.getD i 0
  tl : w.Tapes.length = n
  tb : ∀ i, i < n → ∀ j, j < (w.Tapes.getD i []).length → (w.Tapes.getD i []).getD j 0 < w.S.P
  ts : ∀ i, i < n → (w.Tapes.getD i []).length ≤ 100
  full : ∀ x ∈ w.Deviations, 0 ≤ x.Round ∧ 0 ≤ x.To ∧ x.To ≤ n ∧ 1 ≤ x.Kind ∧ x.Kind ≤ 4
theorem exp_step {p : Nat} {l : List Int} {j : Nat} {x : Int} (hl : l[j]? = some x) (hx : 5 ≤ x ∧ x ≤ 61) : privityref01_Exponent_L0 p l j = some (if p = 2 ^ x.toNat - 1 then .fin x else .go ()) := by
  unfold privityref01_Exponent_L0
  obtain ⟨q, rfl⟩ : ∃ q : Nat, x = q := ⟨x.toNat, by omega⟩
  have hq : q ≤ 61 := by omega
  have hu : toU ((q : Nat) : Int) = q := by unfold toU; omega
  have h2 : 2 ^ q ≤ 2 ^ 61 := Nat.pow_le_pow_right (by decide) hq
  have h3 : 1 ≤ 2 ^ q := Nat.one_le_two_pow
  rw [hl, bS, hu, bS, shlU_some (by omega), bS, Nat.one_mul, Nat.mod_eq_of_lt (by omega), subU_ok h3 (by omega), bS, Int.toNat_natCast]
  by_cases g : p = 2 ^ q - 1
  · rw [zz g, cT, if_pos g]
  · rw [zzF g, cF, if_neg g]
theorem sup_of {p : Nat} {x : Int} (h : x ∈ ([5, 7, 13, 17, 19, 31, 61] : List Int)) (e : p = 2 ^ x.toNat - 1) : Sup p := by
  simp only [List.mem_cons, List.not_mem_nil, or_false] at h
  unfold Sup
  rcases h with rfl | rfl | rfl | rfl | rfl | rfl | rfl <;> simp at e <;> omega
theorem refSup {p : Nat} : ∃ b, privityref01_Supported p = some b ∧ (b = true → Sup p) := by
  unfold privityref01_Supported privityref01_Exponent
  have he : privityref01_exps = some [5, 7, 13, 17, 19, 31, 61] := rfl
  rw [he, bS]
  obtain ⟨o, e, ho⟩ := rgO_inv (body := fun k1 (st : Unit) => privityref01_Exponent_L0 p [5, 7, 13, 17, 19, 31, 61] k1) (fun _ _ => True) (fun r => Sup p) (rem := ([5, 7, 13, 17, 19, 31, 61] : List Int).length - 0) (k := 0) (s := ()) trivial (fun j _ _ hj _ => by
    have hj' : j < 7 := by simpa using hj
    obtain ⟨x, hx, hm⟩ : ∃ x, ([5, 7, 13, 17, 19, 31, 61] : List Int)[j]? = some x ∧ x ∈ ([5, 7, 13, 17, 19, 31, 61] : List Int) := ⟨_, List.getElem?_eq_getElem (by simpa using hj'), List.getElem_mem _⟩
    have hb : 5 ≤ x ∧ x ≤ 61 := by
      simp only [List.mem_cons, List.not_mem_nil, or_false] at hm
      rcases hm with rfl | rfl | rfl | rfl | rfl | rfl | rfl <;> decide
    rw [exp_step hx hb]
    refine ⟨_, rfl, ?_⟩
    split
    · next g => exact sup_of hm g
    · trivial)
  rw [e]
  simp only [bS]
  cases o with
  | fin r => rw [oF]; simp only [bS]; exact ⟨_, rfl, fun _ => ho⟩
  | go s => rw [oG]; simp only [bS]; exact ⟨_, rfl, fun h => by simp at h⟩
theorem impSup {p : Nat} (hp : Sup p) : field_Supported p = some true := by
  rcases hp with rfl | rfl | rfl | rfl | rfl | rfl | rfl <;> decide +kernel
structure Par (s : T_api_Params) (n t : Nat) : Prop where
  sup : Sup s.P
  N : s.N = n
  T : s.T = t
  n4 : 4 ≤ n
  n13 : n ≤ 13
  t1 : 1 ≤ t
  t3 : 3 * t < n
theorem refValid {s : T_api_Params} : ∃ b, privityref12_Valid s = some b ∧ (b = true → ∃ n t, Par s n t) := by
  unfold privityref12_Valid
  obtain ⟨b, e, hb⟩ := refSup (p := s.P)
  rw [e, bS]
  cases b with
  | false => rw [cF]; exact ⟨_, rfl, fun h => by cases h⟩
  | true =>
    rw [cT]
    have hp := hb rfl
    by_cases h1 : s.N ≥ 4
    · rw [dT h1, cT]
      by_cases h2 : s.N ≤ 13
      · rw [dT h2, cT, bS]
        by_cases h3 : ((toU s.N : Nat) : Int) < ((s.P : Nat) : Int)
        · rw [dT h3, cT]
          by_cases h4 : s.T ≥ 1
          · rw [dT h4, cT]
            by_cases h5 : s.T < s.N
            · rw [dT h5, cT, mulI_some (by omega) (by omega), bS]
              refine ⟨_, rfl, fun h => ?_⟩
              have h6 := of_decide_eq_true h
              exact ⟨s.N.toNat, s.T.toNat, hp, by omega, by omega, by omega, by omega, by omega, by omega⟩
            · rw [dF h5, cF]; exact ⟨_, rfl, fun h => by cases h⟩
          · rw [dF h4, cF]; exact ⟨_, rfl, fun h => by cases h⟩
        · rw [dF h3, cF]; exact ⟨_, rfl, fun h => by cases h⟩
      · rw [dF h2, cF]; exact ⟨_, rfl, fun h => by cases h⟩
    · rw [dF h1, cF]; exact ⟨_, rfl, fun h => by cases h⟩
theorem impValid {s : T_api_Params} {n t : Nat} (h : Par s n t) : params_Valid s = some true := by
  have h1 := h.n4; have h2 := h.n13; have h3 := h.t1; have h4 := h.t3; have h5 := h.sup.lt
  unfold params_Valid
  have hu : toU ((n : Nat) : Int) = n := by unfold toU; omega
  rw [impSup h.sup, bS, cT, h.N, h.T, dT (by omega), cT, dT (by omega), cT, bS, hu, dT (by omega), cT, dT (by omega), cT, dT (by omega), cT, mulI_some (by omega) (by omega), bS, dT (by omega)]
theorem refCoal {s : T_api_Params} {l : List Int} : ∃ b, privityref12_ValidCoalition s l = some b ∧ (b = true → ∃ n t, Par s n t ∧ l.length ≤ t ∧ (∀ x ∈ l, 1 ≤ x ∧ x ≤ n) ∧ ∀ i, 0 < i → i < l.length → l.getD (i - 1) 0 < l.getD i 0) := by
  unfold privityref12_ValidCoalition
  obtain ⟨b, e, hb⟩ := refValid (s := s)
  rw [e, bS]
  cases b with
  | false => rw [nF, cT, bS, cT]; exact ⟨_, rfl, fun h => by cases h⟩
  | true =>
    obtain ⟨n, t, par⟩ := hb rfl
    have hT := par.T; have hN := par.N; have h13 := par.n13; have h3 := par.t3
    rw [nT, cF, bS]
    by_cases g : l.length ≤ t
    · rw [dF (by omega), cF, Nat.sub_zero]
      obtain ⟨o, e, ho⟩ := rgO_inv (body := fun k1 (st : Unit) => privityref12_ValidCoalition_L0 s l k1) (fun k _ => ∀ i, i < k → (1 ≤ l.getD i 0 ∧ l.getD i 0 ≤ n) ∧ (0 < i → l.getD (i - 1) 0 < l.getD i 0)) (fun r => r = false) (rem := l.length) (k := 0) (s := ()) (fun i hi => by omega) (fun k _ _ hk h => by
        have hkl : k < l.length := by omega
        unfold privityref12_ValidCoalition_L0
        rw [ix 0 hkl, bS, hN]
        by_cases c1 : l.getD k 0 < 1
        · rw [dT c1, cT]; exact ⟨_, rfl, rfl⟩
        · rw [dF c1, cF]
          by_cases c2 : l.getD k 0 > n
          · rw [dT c2, cT]; exact ⟨_, rfl, rfl⟩
          · rw [dF c2, cF]
            by_cases c3 : ((k : Nat) : Int) > 0
            · have e1 : (((k : Nat) : Int) - 1).toNat = k - 1 := by omega
              rw [dT c3, cT, subI_some (by omega) (by omega), bS, idx_getD 0 (by omega) (by omega), bS, e1]
              by_cases c4 : l.getD k 0 ≤ l.getD (k - 1) 0
              · rw [dT c4, cT]; exact ⟨_, rfl, rfl⟩
              · rw [dF c4, cF]
                refine ⟨_, rfl, fun i hi => ?_⟩
                by_cases g : i = k
                · subst g; exact ⟨⟨by omega, by omega⟩, fun _ => by omega⟩
                · exact h i (by omega)
            · rw [dF c3, cF]
              refine ⟨_, rfl, fun i hi => ?_⟩
              by_cases g : i = k
              · subst g; exact ⟨⟨by omega, by omega⟩, fun _ => by omega⟩
              · exact h i (by omega))
      rw [e, bS]
      cases o with
      | fin r => rw [oF]; exact ⟨_, rfl, fun h => by rw [ho] at h; cases h⟩
      | go _ =>
        rw [oG]
        rw [Nat.zero_add] at ho
        refine ⟨_, rfl, fun _ => ⟨n, t, par, g, fun x hx => ?_, fun i h1 h2 => (ho i h2).2 h1⟩⟩
        obtain ⟨i, hi, rfl⟩ := List.getElem_of_mem hx
        have := (ho i hi).1
        rw [List.getD_eq_getElem?_getD, List.getElem?_eq_getElem hi] at this
        exact this
    · rw [dT (by omega), cT]; exact ⟨_, rfl, fun h => by cases h⟩
theorem impCoal {s : T_api_Params} {l : List Int} {n t : Nat} (par : Par s n t) (hl : l.length ≤ t) (hr : ∀ x ∈ l, 1 ≤ x ∧ x ≤ n) (ho : ∀ i, 0 < i → i < l.length → l.getD (i - 1) 0 < l.getD i 0) : params_ValidCoalition s l = some true := by
  have hT := par.T; have hN := par.N; have h13 := par.n13; have h3 := par.t3
  unfold params_ValidCoalition
  rw [impValid par, bS, nT, cF, bS, hT, dF (by omega), cF, Nat.sub_zero]
  obtain ⟨o, e, hq⟩ := rgO_inv (body := fun k1 (st : Unit) => params_ValidCoalition_L0 s l k1) (fun _ _ => True) (fun _ => False) (rem := l.length) (k := 0) (s := ()) trivial (fun k _ _ hk _ => by
    have hkl : k < l.length := by omega
    have hm : l.getD k 0 ∈ l := by rw [List.getD_eq_getElem?_getD, List.getElem?_eq_getElem hkl]; exact List.getElem_mem hkl
    have hx := hr _ hm
    unfold params_ValidCoalition_L0
    rw [ix 0 hkl, bS, hN, dF (by omega), cF, dF (by omega), cF]
    by_cases c3 : ((k : Nat) : Int) > 0
    · have e1 : (((k : Nat) : Int) - 1).toNat = k - 1 := by omega
      have := ho k (by omega) hkl
      rw [dT c3, cT, subI_some (by omega) (by omega), bS, idx_getD 0 (by omega) (by omega), bS, e1, dF (by omega), cF]
      exact ⟨_, rfl, trivial⟩
    · rw [dF c3, cF]; exact ⟨_, rfl, trivial⟩)
  rw [e, bS]
  cases o with
  | fin r => exact hq.elim
  | go _ => rw [oG]
/-- a valid deviation -/
def Dv (s : T_api_Params) (x : T_api_Deviation) : Prop := 0 ≤ x.Round ∧ 0 ≤ x.At ∧ 0 ≤ x.SrcIndex ∧ 1 ≤ x.From ∧ x.From ≤ s.N ∧ 0 ≤ x.To ∧ x.To ≤ s.N ∧ 1 ≤ x.Kind ∧ x.Kind ≤ 4 ∧ 0 ≤ x.Of ∧ x.Of ≤ s.N ∧ (x.Kind = 3 → 1 ≤ x.Of)
theorem bC {c : Prop} [Decidable c] {X : Option Bool} {Q : Prop} (h : c → ∃ b, X = some b ∧ (b = true → Q)) : ∃ b, (bif decide c then X else some false) = some b ∧ (b = true → Q) := by
  by_cases g : c
  · rw [dT g, cT]; exact h g
  · rw [dF g, cF]; exact ⟨_, rfl, fun h => by cases h⟩
theorem refDev {s : T_api_Params} {x : T_api_Deviation} : ∃ b, privityref12_Deviation s x = some b ∧ (b = true → Dv s x) := by
  unfold privityref12_Deviation
  refine bC fun h1 => bC fun h2 => bC fun h3 => bC fun h4 => bC fun h5 => bC fun h6 => bC fun h7 => bC fun h8 => bC fun h9 => bC fun h10 => bC fun h11 => ?_
  by_cases k : x.Kind = 3
  · rw [qF k, cF]
    exact ⟨_, rfl, fun h => ⟨h1, h2, h3, h4, h5, h6, h7, h8, h9, h10, h11, fun _ => of_decide_eq_true h⟩⟩
  · rw [qT k, cT]
    exact ⟨_, rfl, fun h => ⟨h1, h2, h3, h4, h5, h6, h7, h8, h9, h10, h11, fun e => absurd e k⟩⟩
theorem impDev {s : T_api_Params} {x : T_api_Deviation} (h : Dv s x) : params_lie s x = some true := by
  obtain ⟨h1, h2, h3, h4, h5, h6, h7, h8, h9, h10, h11, h12⟩ := h
  unfold params_lie
  by_cases k : x.Kind = 3
  · have := h12 k
    rw [eT k, cT, bS, dT h1, cT, dT h2, cT, dT h3, cT, dT h4, cT, dT h5, cT, dT h6, cT, dT h7, cT, dT h8, cT, dT h9, cT, dT (by omega), cT, dT h11]
  · rw [eF k, cF, bS, dT h1, cT, dT h2, cT, dT h3, cT, dT h4, cT, dT h5, cT, dT h6, cT, dT h7, cT, dT h8, cT, dT h9, cT, dT (by omega), cT, dT h11]
theorem refBelow {p : Nat} {l : List Nat} : ∃ b, privityref05_Below p l = some b ∧ (b = true → Lt p l) := by
  unfold privityref05_Below
  rw [Nat.sub_zero]
  obtain ⟨o, e, ho⟩ := rgO_inv (body := fun k1 (st : Unit) => privityref05_Below_L0 p l k1) (fun k _ => ∀ i, i < k → l.getD i 0 < p) (fun r => r = false) (rem := l.length) (k := 0) (s := ()) (fun i hi => by omega) (fun k _ _ hk h => by
    unfold privityref05_Below_L0
    rw [ix 0 (by omega), bS]
    by_cases g : l.getD k 0 < p
    · rw [dF (by omega), cF]
      refine ⟨_, rfl, fun i hi => ?_⟩
      by_cases e : i = k
      · subst e; exact g
      · exact h i (by omega)
    · rw [dT (by omega), cT]; exact ⟨_, rfl, rfl⟩)
  rw [e, bS]
  cases o with
  | fin r => rw [oF]; exact ⟨_, rfl, fun h => by rw [ho] at h; cases h⟩
  | go _ => rw [oG]; exact ⟨_, rfl, fun _ i hi => ho i (by omega)⟩
theorem refScen {w : T_api_Scenario} : ∃ b, privityref12_ValidScenario w = some b ∧ (b = true → ∃ n t, Par w.S n t ∧ w.Corrupt.length ≤ t ∧ (∀ x ∈ w.Corrupt, 1 ≤ x ∧ x ≤ n) ∧ (∀ i, 0 < i → i < w.Corrupt.length → w.Corrupt.getD (i - 1) 0 < w.Corrupt.getD i 0) ∧ w.Tapes.length = n ∧ (∀ i, i < w.Deviations.length → Dv w.S (w.Deviations.getD i default)) ∧ ∀ i, i < w.Tapes.length → Lt w.S.P (w.Tapes.getD i [])) := by
  unfold privityref12_ValidScenario
  obtain ⟨b, e, hb⟩ := refValid (s := w.S)
  rw [e, bS]
  cases b with
  | false => rw [nF, cT, bS, cT]; exact ⟨_, rfl, fun h => by cases h⟩
  | true =>
    rw [nT, cF]
    obtain ⟨b, e, hb⟩ := refCoal (s := w.S) (l := w.Corrupt)
    rw [e, bS]
    cases b with
    | false => rw [nF, cT, bS, cT]; exact ⟨_, rfl, fun h => by cases h⟩
    | true =>
      obtain ⟨n, t, par, c1, c2, c3⟩ := hb rfl
      rw [nT, cF, bS]
      by_cases g : w.Tapes.length = n
      · rw [qF (by rw [g, par.N]), cF, Nat.sub_zero, Nat.sub_zero]
        obtain ⟨o, e, ho⟩ := rgO_inv (body := fun k1 (st : Unit) => privityref12_ValidScenario_L0 w k1) (fun k _ => ∀ i, i < k → Dv w.S (w.Deviations.getD i default)) (fun r => r = false) (rem := w.Deviations.length) (k := 0) (s := ()) (fun i hi => by omega) (fun k _ _ hk h => by
          unfold privityref12_ValidScenario_L0
          rw [ix default (by omega), bS]
          obtain ⟨b, e, hb⟩ := refDev (s := w.S) (x := w.Deviations.getD k default)
          rw [e, bS]
          cases b with
          | false => rw [nF, cT]; exact ⟨_, rfl, rfl⟩
          | true =>
            rw [nT, cF]
            refine ⟨_, rfl, fun i hi => ?_⟩
            by_cases e : i = k
            · subst e; exact hb rfl
            · exact h i (by omega))
        rw [e, bS]
        cases o with
        | fin r => rw [oF]; exact ⟨_, rfl, fun h => by rw [ho] at h; cases h⟩
        | go _ =>
          rw [oG]
          obtain ⟨o, e, hq⟩ := rgO_inv (body := fun k1 (st : Unit) => privityref12_ValidScenario_L1 w k1) (fun k _ => ∀ i, i < k → Lt w.S.P (w.Tapes.getD i [])) (fun r => r = false) (rem := w.Tapes.length) (k := 0) (s := ()) (fun i hi => by omega) (fun k _ _ hk h => by
            unfold privityref12_ValidScenario_L1
            rw [ix [] (by omega), bS]
            obtain ⟨b, e, hb⟩ := refBelow (p := w.S.P) (l := w.Tapes.getD k [])
            rw [e, bS]
            cases b with
            | false => rw [nF, cT]; exact ⟨_, rfl, rfl⟩
            | true =>
              rw [nT, cF]
              refine ⟨_, rfl, fun i hi => ?_⟩
              by_cases e : i = k
              · subst e; exact hb rfl
              · exact h i (by omega))
          rw [e, bS]
          cases o with
          | fin r => rw [oF]; exact ⟨_, rfl, fun h => by rw [hq] at h; cases h⟩
          | go _ => rw [oG]; exact ⟨_, rfl, fun _ => ⟨n, t, par, c1, c2, c3, g, fun i hi => ho i (by omega), fun i hi => hq i (by omega)⟩⟩
      · rw [qT (by rw [par.N]; omega), cT]; exact ⟨_, rfl, fun h => by cases h⟩
theorem Va.par {w : T_api_Scenario} {n t : Nat} (v : Va w n t) : Par w.S n t := ⟨v.sup, v.N, v.T, v.n4, v.n13, v.t1, v.t3⟩
/-- the program's network stands -/
theorem new_ok {w : T_api_Scenario} {n t : Nat} (v : Va w n t) : network_New w = some (.inr ⟨w, 0, List.replicate n [], List.replicate n ()⟩) := by
  have h13 := v.n13
  unfold network_New params_ValidScenario
  have e1 : slices_ContainsFunc_Lapi_Deviation_api_Deviation_params_ValidScenario_1 w.Deviations w = some false := by
    unfold slices_ContainsFunc_Lapi_Deviation_api_Deviation_params_ValidScenario_1 slices_IndexFunc_Lapi_Deviation_api_Deviation_params_ValidScenario_1
    rw [Nat.sub_zero]
    obtain ⟨o, e, ho⟩ := rgO_inv (body := fun k1 (st : Unit) => slices_IndexFunc_Lapi_Deviation_api_Deviation_params_ValidScenario_1_L0 w.Deviations w k1) (fun _ _ => True) (fun _ => False) (rem := w.Deviations.length) (k := 0) (s := ()) trivial (fun k _ _ hk _ => by
      unfold slices_IndexFunc_Lapi_Deviation_api_Deviation_params_ValidScenario_1_L0 params_ValidScenario_1
      have hkd : k < w.Deviations.length := by omega
      have hx : w.Deviations.getD k default ∈ w.Deviations := by rw [List.getD_eq_getElem?_getD, List.getElem?_eq_getElem hkd]; exact List.getElem_mem hkd
      have d := v.dv _ hx
      have f := v.full _ hx
      have hN := v.N
      rw [ix default hkd, bS, impDev (s := w.S) (x := w.Deviations.getD k default) ⟨f.1, d.2.2.1, d.2.2.2.1, d.1, by rw [hN]; exact d.2.1, f.2.1, by rw [hN]; exact f.2.2.1, f.2.2.2.1, f.2.2.2.2, d.2.2.2.2.1, by rw [hN]; exact d.2.2.2.2.2.1, d.2.2.2.2.2.2.1⟩, bS, bS, nT, cF]
      exact ⟨_, rfl, trivial⟩)
    rw [e, bS]
    cases o with
    | fin r => exact ho.elim
    | go _ => rw [oG, bS, dF (by omega)]
  have e2 : slices_ContainsFunc_LLuint64_Luint64_params_ValidScenario_2 w.Tapes w = some false := by
    unfold slices_ContainsFunc_LLuint64_Luint64_params_ValidScenario_2 slices_IndexFunc_LLuint64_Luint64_params_ValidScenario_2
    rw [Nat.sub_zero]
    obtain ⟨o, e, ho⟩ := rgO_inv (body := fun k1 (st : Unit) => slices_IndexFunc_LLuint64_Luint64_params_ValidScenario_2_L0 w.Tapes w k1) (fun _ _ => True) (fun _ => False) (rem := w.Tapes.length) (k := 0) (s := ()) trivial (fun k _ _ hk _ => by
      unfold slices_IndexFunc_LLuint64_Luint64_params_ValidScenario_2_L0 params_ValidScenario_2
      have hkd : k < w.Tapes.length := by omega
      rw [ix [] hkd, bS]
      have hb := v.tb k (by have := v.tl; omega)
      generalize w.Tapes.getD k [] = l at hb
      have e3 : slices_ContainsFunc_Luint64_uint64_params_ValidScenario_2_1 l w = some false := by
        unfold slices_ContainsFunc_Luint64_uint64_params_ValidScenario_2_1 slices_IndexFunc_Luint64_uint64_params_ValidScenario_2_1
        rw [Nat.sub_zero]
        obtain ⟨o, e, ho⟩ := rgO_inv (body := fun k1 (st : Unit) => slices_IndexFunc_Luint64_uint64_params_ValidScenario_2_1_L0 l w k1) (fun _ _ => True) (fun _ => False) (rem := l.length) (k := 0) (s := ()) trivial (fun j _ _ hj _ => by
          unfold slices_IndexFunc_Luint64_uint64_params_ValidScenario_2_1_L0 params_ValidScenario_2_1
          have := hb j (by omega)
          rw [ix 0 (by omega), bS, bS, dF (by omega), cF]
          exact ⟨_, rfl, trivial⟩)
        rw [e, bS]
        cases o with
        | fin r => exact ho.elim
        | go _ => rw [oG, bS, dF (by omega)]
      rw [e3, bS, bS, cF]
      exact ⟨_, rfl, trivial⟩)
    rw [e, bS]
    cases o with
    | fin r => exact ho.elim
    | go _ => rw [oG, bS, dF (by omega)]
  rw [impCoal v.par v.cl v.cr v.ord, bS, nT, cF, qF (by rw [v.tl, v.N]), cF, e1, bS, cF, e2, bS, bS, nF, nT, cF, v.N, mkO_some (by omega) (by omega) (by omega) (by omega), bS, Int.toNat_natCast, v.tl, Nat.sub_zero]
  obtain ⟨l, e, h⟩ := rgS_inv (body := fun k1 (st : (List Unit)) => network_New_L0 w k1 st) (rem := n) (k := 0) (s := ([] : List Unit)) (fun k l => l.length = k) rfl (fun k l _ hk h => by
    unfold network_New_L0 tape_New
    rw [ix [] (by have := v.tl; omega), bS, bS, appO_some (by simp; omega) (by simp; omega), bS]
    exact ⟨_, rfl, by simp [h]⟩)
  rw [e, bS]
  have : l = List.replicate n () := by rw [List.eq_replicate_iff]; exact ⟨by omega, fun _ _ => rfl⟩
  rw [this]; rfl
end Pu
