/- Plain laws of chapter 47: sharings and recovering rows. -/
import Derived.Test.YtclhpomlfadohaaGreatDoorPd1
set_option linter.unusedVariables false
namespace Pu
open Gw Gl Sp Lean.Grind
theorem rm_le {t : Nat} (h1 : 1 ≤ t) (h4 : t ≤ 4) : rm t ≤ 10 := by
  have : t = 1 ∨ t = 2 ∨ t = 3 ∨ t = 4 := by omega
  rcases this with rfl | rfl | rfl | rfl <;> decide
theorem remU_ok {a p : Nat} (hp : 0 < p) : remU a p = some (a % p) := by unfold remU; rw [if_neg (by omega)]
theorem divI_ok {a b : Nat} (hb : 0 < b) (ha : a < 9223372036854775808) : divI ((a : Nat) : Int) ((b : Nat) : Int) = some ((a / b : Nat) : Int) := by
  have h : a / b ≤ a := Nat.div_le_self ..
  unfold divI
  have e : ((a : Nat) : Int).tdiv ((b : Nat) : Int) = ((a / b : Nat) : Int) := by rw [Int.tdiv_eq_ediv_of_nonneg (by omega)]; rfl
  rw [if_neg (by omega), e]
  clear e
  generalize a / b = q at *
  exact ckI_some (by omega) (by omega)
def col (S : List (List Nat)) (t c : Nat) : List Nat := (List.range (t + 1)).map fun a => (S.getD a []).getD c 0
theorem row10_ok {p t x : Nat} [NeZero p] (hp : Sup p) (h4 : t ≤ 4) {S : List (List Nat)} (m : Mat p (t + 1) (t + 1) S) (hx : x < p) :
    ∃ r, privityref10_Row p S x = some r ∧ r.length = t + 1 ∧ Lt p r ∧ ∀ c, c < t + 1 → o p (r.getD c 0) = evl (P p (col S t c)) (o p x) := by
  unfold privityref10_Row
  rw [m.len, Nat.sub_zero]
  obtain ⟨r, e, r1, r2, r3⟩ := rgS_inv (body := fun k1 (st : (List Nat)) => privityref10_Row_L0 p S x k1 st) (rem := t + 1) (k := 0) (s := ([] : List Nat))
    (fun c r => r.length = c ∧ Lt p r ∧ ∀ q, q < c → o p (r.getD q 0) = evl (P p (col S t q)) (o p x)) ⟨rfl, fun i hi => by simp at hi, fun q hq => by omega⟩ (fun c r _ hc ⟨r1, r2, r3⟩ => by
      have hct : c < t + 1 := by omega
      unfold privityref10_Row_L0
      rw [m.len, Nat.sub_zero]
      obtain ⟨l, el, hl⟩ := rgS_inv (body := fun k2 (st : (List Nat)) => privityref10_Row_L1 S c k2 st) (rem := t + 1) (k := 0) (s := ([] : List Nat))
        (fun a l => l = (List.range a).map fun a => (S.getD a []).getD c 0) rfl (fun a l _ ha hl => by
          have hat : a < t + 1 := by omega
          have hll : l.length = a := by rw [hl]; simp
          unfold privityref10_Row_L1
          rw [m.some hat, bS, rd m hat hct, bS, appO_some (by rw [hll]; simp; omega) (by rw [hll]; simp; omega), bS]
          exact ⟨_, rfl, by rw [hl, List.range_succ, List.map_append]; rfl⟩)
      rw [Nat.zero_add] at hl
      have hlt : Lt p (col S t c) := fun i hi => by
        unfold col at *
        simp only [List.length_map, List.length_range] at hi
        simp only [List.getD_eq_getElem?_getD, List.getElem?_map, List.getElem?_range hi, Option.map_some, Option.getD_some]
        have := m.lt i hi c hct
        simpa [List.getD_eq_getElem?_getD] using this
      have hcl : (col S t c).length ≤ 1000 := by unfold col; simp; omega
      obtain ⟨y, ey, y1, y2⟩ := value_ok hp hlt hx hcl
      have ey' : privityref10_Value p l x = some y := by rw [hl]; exact ey
      rw [el, bS, ey', bS, appO_some (by rw [r1]; simp; omega) (by rw [r1]; simp; omega), bS]
      refine ⟨_, rfl, by simp [r1], fun i hi => getD_app_lt (n := c) (fun i hi => r2 i (by omega)) r1 y1 i (by simp at hi; omega), fun q hq => ?_⟩
      by_cases g : q < c
      · rw [getD_app_l (by omega)]; exact r3 q g
      · have : q = c := by omega
        subst this
        rw [getD_app_e r1.symm]; exact y2)
  rw [Nat.zero_add] at r1 r3
  rw [e, bS]
  exact ⟨_, rfl, r1, r2, r3⟩
/-- a sharing of the reference -/
theorem sharing_ok {s : T_api_Params} {n t : Nat} [NeZero s.P] (par : Par s n t) {secret : Nat} {words : List Nat} (hwl : words.length ≤ 140737488355328) :
    ∃ rows S, privityref23_NewSharing s secret words = some rows ∧ rows.length = n ∧ Mat s.P (t + 1) (t + 1) S ∧ (∀ a, a < t + 1 → ∀ b, b < t + 1 → (S.getD a []).getD b 0 = (S.getD b []).getD a 0) ∧
      ∀ i, i < n → (rows.getD i []).length = t + 1 ∧ Lt s.P (rows.getD i []) ∧ ∀ c, c < t + 1 → o s.P ((rows.getD i []).getD c 0) = evl (P s.P (col S t c)) (o s.P (i + 1)) := by
  have hp := par.sup
  have hlt := hp.lt
  have h13 := par.n13
  have h3 := par.t3
  have h1 := par.t1
  have h4 : t ≤ 4 := by omega
  have hrm := rm_le h1 h4
  unfold privityref23_NewSharing
  rw [remU_ok hp.pos, bS]
  have e1 : (t : Int) + 1 = ((t + 1 : Nat) : Int) := by omega
  have hmul : ((t : Int) * ((t + 1 : Nat) : Int)) = ((t * (t + 1) : Nat) : Int) := by rw [Int.natCast_mul]
  have hmb : t * (t + 1) ≤ 4 * 5 := Nat.mul_le_mul h4 (by omega)
  obtain ⟨⟨l5, l6⟩, e, a1, a2, a3, a4⟩ := lpO_big (step := fun (st : (List Nat) × (List Nat) × Int) => privityref23_NewSharing_L0 s words st.1 st.2.1 st.2.2)
    (fun st => ∃ k : Nat, st.2.2 = k ∧ k ≤ t + rm t ∧ st.1.length = 1 + min k t ∧ st.2.1.length = k - t ∧ Lt s.P st.1 ∧ Lt s.P st.2.1)
    (fun r => r.1.length = t + 1 ∧ r.2.length = rm t ∧ Lt s.P r.1 ∧ Lt s.P r.2) (fun st => t + rm t - st.2.2.toNat) (fun st ⟨k, k1, k2, k3, k4, k5, k6⟩ => by
      obtain ⟨l1, l2, x⟩ := st
      replace k1 : x = k := k1
      replace k3 : l1.length = 1 + min k t := k3
      replace k4 : l2.length = k - t := k4
      replace k5 : Lt s.P l1 := k5
      replace k6 : Lt s.P l2 := k6
      subst k1
      show ∃ q, privityref23_NewSharing_L0 s words l1 l2 ((k : Nat) : Int) = some q ∧ _
      unfold privityref23_NewSharing_L0
      have ed := divI_ok (a := t * (t + 1)) (b := 2) (by decide) (by omega)
      rw [par.T, addI_some (by omega) (by omega), bS, e1, mulI_some (by rw [hmul]; omega) (by rw [hmul]; omega), bS, hmul]
      have ed' : divI ((t * (t + 1) : Nat) : Int) (2 : Int) = some ((rm t : Nat) : Int) := by rw [← rm_div h1 h4]; exact ed
      rw [ed', bS, addI_some (by omega) (by omega), bS]
      by_cases c : k < t + rm t
      · obtain ⟨v, ev, hv⟩ : ∃ v, (bif decide (((k : Nat) : Int) < ((words.length : Nat) : Int)) then idx words ((k : Nat) : Int) >>= fun x8 => remU x8 s.P >>= fun x9 => some x9 else some 0) = some v ∧ v < s.P := by
          by_cases g : k < words.length
          · rw [dT (by omega), cT, idx_getD 0 (by omega) (by omega), bS, remU_ok hp.pos, bS]
            exact ⟨_, rfl, Nat.mod_lt _ hp.pos⟩
          · rw [dF (by omega), cF]; exact ⟨_, rfl, hp.pos⟩
        rw [dT (by omega), cT, ev, bS]
        by_cases g : k < t
        · rw [dT (by omega), cT, appO_some (by rw [k3]; simp; omega) (by rw [k3]; simp; omega), bS, addI_some (by omega) (by omega), bS]
          refine ⟨_, rfl, ⟨k + 1, rfl, by omega, ?_, by show l2.length = _; omega, fun i hi => ?_, k6⟩, by show t + rm t - ((k : Int) + 1).toNat < t + rm t - ((k : Nat) : Int).toNat; omega⟩
          · show (l1 ++ [v]).length = _
            rw [List.length_append, k3]; simp; omega
          · exact getD_app_lt (n := l1.length) k5 rfl hv i (by simpa using hi)
        · rw [dF (by omega), cF, appO_some (by rw [k4]; simp; omega) (by rw [k4]; simp; omega), bS, addI_some (by omega) (by omega), bS]
          refine ⟨_, rfl, ⟨k + 1, rfl, by omega, by show l1.length = _; omega, ?_, k5, fun i hi => ?_⟩, by show t + rm t - ((k : Int) + 1).toNat < t + rm t - ((k : Nat) : Int).toNat; omega⟩
          · show (l2 ++ [v]).length = _
            rw [List.length_append, k4]; simp; omega
          · exact getD_app_lt (n := l2.length) k6 rfl hv i (by simpa using hi)
      · rw [dF (by omega), cF]
        refine ⟨_, rfl, ?_, ?_, k5, k6⟩
        · show l1.length = _; omega
        · show l2.length = _; omega)
    (s := ([secret % s.P], ([] : List Nat), ((0 : Nat) : Int))) ⟨0, rfl, by omega, by simp, by simp, fun i hi => by
      have : i = 0 := by simpa using hi
      subst this; exact Nat.mod_lt _ hp.pos, fun i hi => by simp at hi⟩ (by show t + rm t - _ < _; omega)
  simp only at a1 a2 a3 a4
  obtain ⟨S, es, s1, s2⟩ := new10_ok hp.pos h1 h4 a1 a2 a3 a4
  rw [e, bS]
  simp only
  have hm : max 1 (s.N + 1).toNat = n + 1 := by rw [par.N]; omega
  rw [es, bS, hm, ckN_some (by omega), bS, Nat.add_sub_cancel]
  obtain ⟨rows, er, r1, r2⟩ := rgS_inv (body := fun k2 (st : (List (List Nat))) => privityref23_NewSharing_L1 s (S, 0) k2 st) (rem := n) (k := 1) (s := ([] : List (List Nat)))
    (fun j l => l.length + 1 = j ∧ ∀ i, i + 1 < j → (l.getD i []).length = t + 1 ∧ Lt s.P (l.getD i []) ∧ ∀ c, c < t + 1 → o s.P ((l.getD i []).getD c 0) = evl (P s.P (col S t c)) (o s.P (i + 1))) ⟨rfl, fun i hi => by omega⟩ (fun j l hj1 hj ⟨r1, r2⟩ => by
      obtain ⟨r, e, q1, q2, q3⟩ := row10_ok (x := j) hp h4 s1 (by omega)
      have hu : toU ((j : Nat) : Int) = j := by unfold toU; omega
      unfold privityref23_NewSharing_L1
      rw [hu, bS]
      simp only
      rw [e, bS, appO_some (by simp; omega) (by simp; omega), bS]
      refine ⟨_, rfl, by simp; omega, fun i hi => ?_⟩
      by_cases g : i + 1 < j
      · rw [getD_app_l (by omega)]; exact r2 i g
      · rw [getD_app_e (by omega)]
        have : j = i + 1 := by omega
        subst this
        exact ⟨q1, q2, q3⟩)
  rw [er, bS]
  exact ⟨rows, S, rfl, by omega, s1, s2, fun i hi => r2 i (by omega)⟩
def secOf (l : List Nat) : Nat := l.getD 0 0
theorem numbers_ok {z : T_privitylaw47_Ask} {n t : Nat} [NeZero z.W.S.P] (s : Sc z.W n t) (par : Par z.W.S n t) (hL : z.L.length ≤ 3) (hS : z.Spoil.length ≤ 20) (hb : ∀ l ∈ z.L, l.length ≤ 140737488355328) :
    ∃ out, privitylaw47_numbers z = some out ∧ out.length = z.L.length ∧ ∀ k, k < z.L.length → (out.getD k []).length = n ∧ (∀ i, i < n → ((out.getD k []).getD i []).length = t + 1 ∧ Lt z.W.S.P ((out.getD k []).getD i [])) ∧
      ∃ rows, privityref23_NewSharing z.W.S (secOf (z.L.getD k [])) ((z.L.getD k []).drop 1) = some rows ∧ ∀ i, i < n → ((((i : Nat) : Int) + 1) ∉ z.W.Corrupt ∨ z.Spoil = []) → (out.getD k []).getD i [] = rows.getD i [] := by
  have hp := par.sup
  have hlt := hp.lt
  have h13 := par.n13
  have h3 := par.t3
  unfold privitylaw47_numbers
  rw [Nat.sub_zero]
  obtain ⟨out, e, o1, o2⟩ := rgS_inv (body := fun k1 (st : (List (List (List Nat)))) => privitylaw47_numbers_L0 z k1 st) (rem := z.L.length) (k := 0) (s := ([] : List (List (List Nat))))
    (fun k out => out.length = k ∧ ∀ q, q < k → (out.getD q []).length = n ∧ (∀ i, i < n → ((out.getD q []).getD i []).length = t + 1 ∧ Lt z.W.S.P ((out.getD q []).getD i [])) ∧
      ∃ rows, privityref23_NewSharing z.W.S (secOf (z.L.getD q [])) ((z.L.getD q []).drop 1) = some rows ∧ ∀ i, i < n → ((((i : Nat) : Int) + 1) ∉ z.W.Corrupt ∨ z.Spoil = []) → (out.getD q []).getD i [] = rows.getD i []) ⟨rfl, fun q hq => by omega⟩ (fun k out _ hk ⟨o1, o2⟩ => by
      have hkL : k < z.L.length := by omega
      have hkb := hb (z.L.getD k []) (by rw [List.getD_eq_getElem?_getD, List.getElem?_eq_getElem hkL]; exact List.getElem_mem hkL)
      unfold privitylaw47_numbers_L0
      rw [ix [] hkL, bS]
      generalize hl : z.L.getD k [] = l at hkb
      have hx : (bif decide (((l.length : Nat) : Int) > (0 : Int)) then l[0]? >>= fun x4 => cutO l (1 : Int) ((l.length : Nat) : Int) >>= fun l4 => some (x4, l4) else some (0, ([] : List Nat))) = some (secOf l, l.drop 1) := by
        by_cases g : 0 < l.length
        · rw [dT (by omega), cT, ix 0 g, bS, cutO_some (by omega) (by omega) (by omega), bS]
          have : List.take (((l.length : Nat) : Int).toNat - (1 : Int).toNat) (List.drop ((1 : Int).toNat) l) = l.drop 1 := by
            have e1 : ((l.length : Nat) : Int).toNat = l.length := by omega
            have e2 : (1 : Int).toNat = 1 := rfl
            rw [e1, e2, List.take_of_length_le (by simp)]
          rw [this]; rfl
        · rw [dF (by omega), cF]
          have : l = [] := List.eq_nil_of_length_eq_zero (by omega)
          rw [this]; rfl
      obtain ⟨rows, S, er, r1, _, _, r2⟩ := sharing_ok par (secret := secOf l) (words := l.drop 1) (by simp; omega)
      have hm : max 1 (z.W.S.N + 1).toNat = n + 1 := by rw [par.N]; omega
      rw [hx, bS]
      simp only
      rw [er, bS, hm, ckN_some (by omega), bS, Nat.add_sub_cancel]
      obtain ⟨l6, e6, b1, b2, b3⟩ := rgS_inv (body := fun k2 (st : (List (List Nat))) => privitylaw47_numbers_L1 z k rows k2 st) (rem := n) (k := 1) (s := ([] : List (List Nat)))
        (fun j l => l.length + 1 = j ∧ (∀ i, i + 1 < j → (l.getD i []).length = t + 1 ∧ Lt z.W.S.P (l.getD i [])) ∧ ∀ i, i + 1 < j → ((((i : Nat) : Int) + 1) ∉ z.W.Corrupt ∨ z.Spoil = []) → l.getD i [] = rows.getD i []) ⟨rfl, fun i hi => by omega, fun i hi => by omega⟩ (fun j l hj1 hj ⟨b1, b2, b3⟩ => by
          obtain ⟨i0, rfl⟩ : ∃ i0, j = i0 + 1 := ⟨j - 1, by omega⟩
          have hi0 : i0 < n := by omega
          have ej : ((i0 + 1 : Nat) : Int) - 1 = (i0 : Int) := by omega
          have ejc : ((i0 + 1 : Nat) : Int) = (i0 : Int) + 1 := by omega
          obtain ⟨q1, q2, _⟩ := r2 i0 hi0
          unfold privitylaw47_numbers_L1
          rw [subI_some (by omega) (by omega), bS, ej, idx_getD [] (by omega) (by omega), bS, Int.toNat_natCast, honest_ok]
          simp only [bS]
          by_cases hc : ((i0 + 1 : Nat) : Int) ∉ z.W.Corrupt ∨ z.Spoil = []
          · have hx : (bif !(decide (((i0 + 1 : Nat) : Int) ∉ z.W.Corrupt)) then some (decide (((z.Spoil.length : Nat) : Int) > (0 : Int))) else some false) = some false := by
              by_cases g : ((i0 + 1 : Nat) : Int) ∉ z.W.Corrupt
              · rw [dT g, nT, cF]
              · rw [dF g, nF, cT]
                rcases hc with h | h
                · exact absurd h g
                · rw [h, dF (by simp)]
            rw [hx, bS, cF, appO_some (by simp; omega) (by simp; omega), bS]
            refine ⟨_, rfl, by simp; omega, fun i hi => ?_, fun i hi hh => ?_⟩
            · by_cases g : i + 1 < i0 + 1
              · rw [getD_app_l (by omega)]; exact b2 i g
              · rw [getD_app_e (by omega)]; exact ⟨q1, q2⟩
            · by_cases g : i + 1 < i0 + 1
              · rw [getD_app_l (by omega)]; exact b3 i g hh
              · rw [getD_app_e (by omega)]
                have : i = i0 := by omega
                rw [this]
          · have hc1 : ¬ (((i0 + 1 : Nat) : Int) ∉ z.W.Corrupt) := fun h => hc (.inl h)
            have hsl : 0 < z.Spoil.length := by
              cases hz : z.Spoil with
              | nil => exact absurd (.inr hz) hc
              | cons a b => simp
            have hx : ((i0 + 1 : Nat) : Int) + (k : Int) = ((i0 + 1 + k : Nat) : Int) := by omega
            have hr : remI ((i0 + 1 + k : Nat) : Int) ((z.Spoil.length : Nat) : Int) = some (((i0 + 1 + k) % z.Spoil.length : Nat) : Int) := by
              unfold remI
              rw [if_neg (by omega), Int.tmod_eq_emod_of_nonneg (by omega)]; rfl
            have hml := Nat.mod_lt (i0 + 1 + k) hsl
            have eT1 : z.W.S.T + 1 = ((t + 1 : Nat) : Int) := by rw [par.T]; omega
            rw [dF hc1, nF, cT, dT (by omega), bS, cT, addI_some (by rw [par.T]; omega) (by rw [par.T]; omega), bS, eT1, mkO_some (by omega) (by omega) (by omega) (by omega), bS, Int.toNat_natCast, addI_some (by omega) (by omega), bS, hx, hr, bS, idx_getD 0 (by omega) (by omega), bS, remU_ok hp.pos, bS, ix 0 (by simp), bS, appO_some (by simp; omega) (by simp; omega), bS]
            refine ⟨_, rfl, by simp; omega, fun i hi => ?_, fun i hi hh => ?_⟩
            · by_cases g : i + 1 < i0 + 1
              · rw [getD_app_l (by omega)]; exact b2 i g
              · rw [getD_app_e (by omega)]
                refine ⟨by simp, Lt_set (fun q hq => ?_) (Nat.mod_lt _ hp.pos)⟩
                simp only [List.length_replicate] at hq
                simp [List.getD_eq_getElem?_getD, hq]; exact hp.pos
            · by_cases g : i + 1 < i0 + 1
              · rw [getD_app_l (by omega)]; exact b3 i g hh
              · have : i = i0 := by omega
                subst this
                exact absurd (by simpa [ejc] using hh) hc)
      rw [e6, bS, appO_some (by rw [o1]; simp; omega) (by rw [o1]; simp; omega), bS]
      refine ⟨_, rfl, by simp [o1], fun q hq => ?_⟩
      by_cases g : q < k
      · rw [getD_app_l (by omega)]; exact o2 q g
      · have : q = k := by omega
        subst this
        rw [getD_app_e o1.symm, hl]
        exact ⟨by omega, fun i hi => b2 i (by omega), rows, er, fun i hi hh => b3 i (by omega) hh⟩)
  rw [Nat.zero_add] at o1 o2
  rw [e, bS]
  exact ⟨out, rfl, o1, o2⟩
end Pu
