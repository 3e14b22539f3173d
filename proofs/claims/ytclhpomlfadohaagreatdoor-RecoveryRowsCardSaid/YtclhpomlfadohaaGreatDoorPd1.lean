/- Plain laws of chapter 47: sharings of the reference, and recovering rows: shapes. -/
import Derived.Test.YtclhpomlfadohaaGreatDoorPb8
set_option linter.unusedVariables false
namespace Pu
open Gw Gl Sp Lean.Grind
theorem aw47 : privitylaw47_awake = some true := by decide +kernel
/-- the number of pairs i <= j from 1 to m -/
def rm : Nat → Nat
  | 0 => 0
  | m + 1 => (m + 1) + rm m
theorem rm_div {t : Nat} (h1 : 1 ≤ t) (h4 : t ≤ 4) : t * (t + 1) / 2 = rm t := by
  have : t = 1 ∨ t = 2 ∨ t = 3 ∨ t = 4 := by omega
  rcases this with rfl | rfl | rfl | rfl <;> decide
theorem value_ok {p : Nat} [NeZero p] (hp : Sup p) {f : List Nat} {x : Nat} (hf : Lt p f) (hx : x < p) (h : f.length ≤ 1000) : ∃ y, privityref10_Value p f x = some y ∧ y < p ∧ o p y = evl (P p f) (o p x) := by
  have hl := hp.lt
  unfold privityref10_Value
  rw [subI_some (by omega) (by omega), bS]
  obtain ⟨r, e, h1, h2⟩ := lpO_big (step := fun (st : Nat × Int) => privityref10_Value_L0 p f x st.1 st.2) (fun st => ∃ k : Nat, st.2 = (k : Int) - 1 ∧ k ≤ f.length ∧ st.1 < p ∧ o p st.1 = evl (P p (f.drop k)) (o p x))
    (fun r => r < p ∧ o p r = evl (P p f) (o p x)) (fun st => (st.2 + 1).toNat) (fun st ⟨k, h1, h2, h3, h4⟩ => by
      obtain ⟨a, z⟩ := st
      replace h1 : z = (k : Int) - 1 := h1
      replace h3 : a < p := h3
      replace h4 : o p a = evl (P p (f.drop k)) (o p x) := h4
      subst h1
      show ∃ q, privityref10_Value_L0 p f x a ((k : Int) - 1) = some q ∧ _
      unfold privityref10_Value_L0
      by_cases g : k = 0
      · subst g
        rw [dF (by omega), cF]
        exact ⟨_, rfl, h3, h4⟩
      · have e1 : ((k : Int) - 1).toNat = k - 1 := by omega
        have hm := Nat.mod_lt (a * x) hp.pos
        have hfk := hf (k - 1) (by omega)
        rw [dT (by omega), cT, refMul_ok hp h3 (by omega), bS, idx_getD 0 (by omega) (by omega), bS, e1, refAdd_ok hp (by omega), bS, subI_some (by omega) (by omega), bS]
        refine ⟨_, rfl, ⟨k - 1, by show (k : Int) - 1 - 1 = _; omega, by omega, Nat.mod_lt _ hp.pos, ?_⟩, by show ((k : Int) - 1 - 1 + 1).toNat < ((k : Int) - 1 + 1).toNat; omega⟩
        show o p _ = _
        have ed : f.drop (k - 1) = f.getD (k - 1) 0 :: f.drop k := by
          rw [List.drop_eq_getElem_cons (show k - 1 < f.length by omega), show k - 1 + 1 = k by omega, List.getD_eq_getElem?_getD, List.getElem?_eq_getElem (by omega)]; rfl
        rw [ed, o_mod, o_add, o_mod, o_mul, h4]
        show _ = o p _ + o p x * evl (P p (f.drop k)) (o p x)
        grind)
    (s := (0, ((f.length : Nat) : Int) - 1)) ⟨f.length, rfl, Nat.le_refl _, hp.pos, by
      show o p 0 = _
      rw [List.drop_length, o_zero]; rfl⟩ (by show ((f.length : Int) - 1 + 1).toNat < _; omega)
  rw [e, bS]
  exact ⟨r, rfl, h1, h2⟩
/-- the symmetric table of coefficients: entries where a b is the one at row a, column b -/
theorem new10_ok {p t : Nat} {first rest : List Nat} (h0 : 0 < p) (h1 : 1 ≤ t) (h4 : t ≤ 4) (hf : first.length = t + 1) (hr : rest.length = rm t) (hfp : Lt p first) (hrp : Lt p rest) :
    ∃ l, privityref10_New first rest = some (l, 0) ∧ Mat p (t + 1) (t + 1) l ∧ ∀ a, a < t + 1 → ∀ b, b < t + 1 → (l.getD a []).getD b 0 = (l.getD b []).getD a 0 := by
  unfold privityref10_New
  have e1 : ((t + 1 : Nat) : Int) - 1 = (t : Int) := by omega
  have hrm : rm t ≤ 10 := by
    have : t = 1 ∨ t = 2 ∨ t = 3 ∨ t = 4 := by omega
    rcases this with rfl | rfl | rfl | rfl <;> decide
  have hmul : ((t : Int) * ((t : Int) + 1)) = ((t * (t + 1) : Nat) : Int) := by rw [Int.natCast_mul]; rfl
  have hmb : t * (t + 1) ≤ 4 * 5 := Nat.mul_le_mul h4 (by omega)
  have hdiv : divI ((t * (t + 1) : Nat) : Int) 2 = some ((rm t : Nat) : Int) := by
    unfold divI
    rw [if_neg (by decide), ckI_some (by rw [Int.tdiv_eq_ediv_of_nonneg (by omega)]; omega) (by rw [Int.tdiv_eq_ediv_of_nonneg (by omega)]; omega), Int.tdiv_eq_ediv_of_nonneg (by omega), ← rm_div h1 h4]
    rfl
  rw [hf, subI_some (by omega) (by omega), bS, e1, dF (by omega), cF, addI_some (by omega) (by omega), bS, mulI_some (by rw [hmul]; omega) (by rw [hmul]; omega), bS, hmul, hdiv, bS, hr, qF rfl, bS, cF, bS]
  have e2 : (t : Int) + 1 = ((t + 1 : Nat) : Int) := by omega
  have e3 : max 0 ((t : Int) + 1).toNat = t + 1 := by omega
  rw [e3, e2, mkO_some (by omega) (by omega) (by omega) (by omega), bS, ckN_some (by omega), bS, Int.toNat_natCast, Nat.sub_zero]
  obtain ⟨l3, ea, a1, a2⟩ := rgS_inv (body := fun k1 (st : (List (List Nat))) => privityref10_New_L0 ((t + 1 : Nat) : Int) k1 st) (rem := t + 1) (k := 0) (s := List.replicate (t + 1) [])
    (fun k l => l.length = t + 1 ∧ ∀ i, i < k → l.getD i [] = List.replicate (t + 1) 0) ⟨by simp, fun i hi => by omega⟩ (fun k l _ hk ⟨a1, a2⟩ => by
      unfold privityref10_New_L0
      rw [mkO_some (by omega) (by omega) (by omega) (by omega), bS, Int.toNat_natCast, ix [] (by omega), bS, bS]
      refine ⟨_, rfl, by rw [List.length_set]; exact a1, fun i hi => ?_⟩
      rw [getD_set (by omega)]
      by_cases g : k = i
      · rw [if_pos g]
      · rw [if_neg g]; exact a2 i (by omega))
  rw [Nat.zero_add] at a2
  have m3 : Mat p (t + 1) (t + 1) l3 := ⟨a1, fun i hi => by rw [a2 i hi]; simp, fun i hi j hj => by rw [a2 i hi]; simp [List.getD_eq_getElem?_getD, hj]; exact h0⟩
  have s3 : ∀ a, a < t + 1 → ∀ b, b < t + 1 → (l3.getD a []).getD b 0 = (l3.getD b []).getD a 0 := fun a ha b hb => by rw [a2 a ha, a2 b hb]; simp [List.getD_eq_getElem?_getD, ha, hb]
  have sym : ∀ {l : List (List Nat)} {i j v : Nat}, Mat p (t + 1) (t + 1) l → (∀ a, a < t + 1 → ∀ b, b < t + 1 → (l.getD a []).getD b 0 = (l.getD b []).getD a 0) → i < t + 1 → j < t + 1 → v < p →
      Mat p (t + 1) (t + 1) ((l.set i ((l.getD i []).set j v)).set j (((l.set i ((l.getD i []).set j v)).getD j []).set i v)) ∧ ∀ a, a < t + 1 → ∀ b, b < t + 1 → ((((l.set i ((l.getD i []).set j v)).set j (((l.set i ((l.getD i []).set j v)).getD j []).set i v))).getD a []).getD b 0 = ((((l.set i ((l.getD i []).set j v)).set j (((l.set i ((l.getD i []).set j v)).getD j []).set i v))).getD b []).getD a 0 := by
    intro l i j v m s hi hj hv
    have hil : i < l.length := by rw [m.len]; exact hi
    have m1 : Mat p (t + 1) (t + 1) (l.set i ((l.getD i []).set j v)) := m.setRow hi (by rw [List.length_set]; exact m.row i hi) (fun q hq => by
      rw [getD_set (by rw [m.row i hi]; exact hj)]; split
      · exact hv
      · exact m.lt i hi q hq)
    have hjl : j < (l.set i ((l.getD i []).set j v)).length := by rw [m1.len]; exact hj
    have m2 := m1.setRow (i := j) (r := ((l.set i ((l.getD i []).set j v)).getD j []).set i v) hj (by rw [List.length_set]; exact m1.row j hj) (fun q hq => by
      rw [getD_set (by rw [m1.row j hj]; exact hi)]; split
      · exact hv
      · exact m1.lt j hj q hq)
    refine ⟨m2, ?_⟩
    have val : ∀ a, a < t + 1 → ∀ b, b < t + 1 → ((((l.set i ((l.getD i []).set j v)).set j (((l.set i ((l.getD i []).set j v)).getD j []).set i v))).getD a []).getD b 0 = if (a = i ∧ b = j) ∨ (a = j ∧ b = i) then v else (l.getD a []).getD b 0 := by
      intro a ha b hb
      have ge : ∀ q, q < t + 1 → ∀ b, ((l.set i ((l.getD i []).set j v)).getD q []).getD b 0 = if q = i ∧ b = j then v else (l.getD q []).getD b 0 := fun q hq b => by
        rw [getD_set hil]
        by_cases g : i = q
        · subst g
          rw [if_pos rfl, getD_set (by rw [m.row i hi]; exact hj)]
          by_cases g2 : j = b
          · rw [if_pos g2, if_pos ⟨rfl, g2.symm⟩]
          · rw [if_neg g2, if_neg (fun e => g2 e.2.symm)]
        · rw [if_neg g, if_neg (fun e => g e.1.symm)]
      rw [getD_set hjl]
      by_cases g : j = a
      · subst g
        rw [if_pos rfl, getD_set (by rw [m1.row j hj]; exact hi)]
        by_cases g2 : i = b
        · rw [if_pos g2, if_pos (.inr ⟨rfl, g2.symm⟩)]
        · rw [if_neg g2, ge j hj]
          by_cases g3 : j = i ∧ b = j
          · rw [if_pos g3, if_pos (.inl g3)]
          · rw [if_neg g3, if_neg (fun e => e.elim g3 (fun e => g2 e.2.symm))]
      · rw [if_neg g, ge a ha]
        by_cases g3 : a = i ∧ b = j
        · rw [if_pos g3, if_pos (.inl g3)]
        · rw [if_neg g3, if_neg (fun e => e.elim g3 (fun e => g e.1.symm))]
    intro a ha b hb
    rw [val a ha b hb, val b hb a ha, s a ha b hb]
    by_cases g : (a = i ∧ b = j) ∨ (a = j ∧ b = i)
    · rw [if_pos g, if_pos (by rcases g with g | g; exact .inr ⟨g.2, g.1⟩; exact .inl ⟨g.2, g.1⟩)]
    · rw [if_neg g, if_neg (fun e => g (by rcases e with e | e; exact .inr ⟨e.2, e.1⟩; exact .inl ⟨e.2, e.1⟩))]
  rw [ea, bS]
  have rmS : ∀ k, 1 ≤ k → k ≤ t → rm (t + 1 - k) = (t + 1 - k) + rm (t - k) := fun k hk1 hk2 => by
    have : t + 1 - k = (t - k) + 1 := by omega
    rw [this]; rfl
  obtain ⟨⟨l7, x11⟩, eb, b1, b2, _⟩ := rgS_inv (body := fun k2 (st : (List (List Nat)) × Int) => privityref10_New_L1 first rest (t : Int) k2 st.1 st.2) (rem := t + 1) (k := 0) (s := (l3, ((0 : Nat) : Int)))
    (fun k st => Mat p (t + 1) (t + 1) st.1 ∧ (∀ a, a < t + 1 → ∀ b, b < t + 1 → (st.1.getD a []).getD b 0 = (st.1.getD b []).getD a 0) ∧ ((k = 0 ∧ st.2 = 0) ∨ (1 ≤ k ∧ ∃ u : Nat, st.2 = u ∧ u + rm (t + 1 - k) = rm t)))
    ⟨m3, s3, .inl ⟨rfl, rfl⟩⟩ (fun k st _ hk ⟨b1, b2, b3⟩ => by
      obtain ⟨l6, x9⟩ := st
      replace b1 : Mat p (t + 1) (t + 1) l6 := b1
      replace b2 : ∀ a, a < t + 1 → ∀ b, b < t + 1 → (l6.getD a []).getD b 0 = (l6.getD b []).getD a 0 := b2
      have hk' : k < t + 1 := by omega
      have hfk := hfp k (by omega)
      have h00 : 0 < t + 1 := by omega
      obtain ⟨c1, c2⟩ := sym b1 b2 h00 hk' hfk
      have d1 : Mat p (t + 1) (t + 1) (l6.set 0 ((l6.getD 0 []).set k (first.getD k 0))) := b1.setRow h00 (by rw [List.length_set]; exact b1.row 0 h00) (fun q hq => by
        rw [getD_set (by rw [b1.row 0 h00]; exact hk')]; split
        · exact hfk
        · exact b1.lt 0 h00 q hq)
      show ∃ q, privityref10_New_L1 first rest (t : Int) k l6 x9 = some q ∧ _
      unfold privityref10_New_L1
      rw [b1.some h00, bS, b1.some hk', bS, ix 0 (by omega), bS, rd b1 h00 hk', bS, bS, bS, rd b1 hk' h00, bS, d1.some hk', bS, rd d1 hk' h00, bS, bS, bS]
      generalize (l6.set 0 ((l6.getD 0 []).set k (first.getD k 0))).set k (((l6.set 0 ((l6.getD 0 []).set k (first.getD k 0))).getD k []).set 0 (first.getD k 0)) = l11 at c1 c2
      obtain ⟨u0, hu0, hu1⟩ : ∃ u : Nat, x9 = u ∧ (1 ≤ k → u + rm (t + 1 - k) = rm t) := by
        rcases b3 with ⟨hk0, hx⟩ | ⟨hk1, u, hx, hu⟩
        · exact ⟨0, hx, fun h => by omega⟩
        · exact ⟨u, hx, fun _ => hu⟩
      rw [hu0]
      obtain ⟨⟨l14, x22⟩, ec, e1', e2', e3'⟩ := lpO_big (step := fun (st : (List (List Nat)) × Int × Int) => privityref10_New_L2 rest (t : Int) k st.1 st.2.1 st.2.2)
        (fun st => Mat p (t + 1) (t + 1) st.1 ∧ (∀ a, a < t + 1 → ∀ b, b < t + 1 → (st.1.getD a []).getD b 0 = (st.1.getD b []).getD a 0) ∧ ∃ j : Nat, st.2.2 = j ∧ k ≤ j ∧ j ≤ t + 1 ∧ st.2.1 = ((if k = 0 then u0 else u0 + (j - k) : Nat) : Int))
        (fun r => Mat p (t + 1) (t + 1) r.1 ∧ (∀ a, a < t + 1 → ∀ b, b < t + 1 → (r.1.getD a []).getD b 0 = (r.1.getD b []).getD a 0) ∧ r.2 = ((if k = 0 then u0 else u0 + (t + 1 - k) : Nat) : Int)) (fun st => t + 1 - st.2.2.toNat) (fun st ⟨f1, f2, j, f3, f4, f5, f6⟩ => by
          obtain ⟨l12, x19, x20⟩ := st
          replace f1 : Mat p (t + 1) (t + 1) l12 := f1
          replace f2 : ∀ a, a < t + 1 → ∀ b, b < t + 1 → (l12.getD a []).getD b 0 = (l12.getD b []).getD a 0 := f2
          replace f3 : x20 = j := f3
          replace f6 : x19 = ((if k = 0 then u0 else u0 + (j - k) : Nat) : Int) := f6
          subst f3; subst f6
          show ∃ q, privityref10_New_L2 rest (t : Int) k l12 ((if k = 0 then u0 else u0 + (j - k) : Nat) : Int) ((j : Nat) : Int) = some q ∧ _
          unfold privityref10_New_L2
          by_cases g : j ≤ t ∧ 0 < k
          · obtain ⟨g1, g2⟩ := g
            have hjt : j < t + 1 := by omega
            have hbnd : u0 + (j - k) < rest.length := by
              have := hu1 (by omega)
              have := rmS k (by omega) (by omega)
              omega
            have hv := hrp _ hbnd
            rw [show ((if k = 0 then u0 else u0 + (j - k) : Nat)) = u0 + (j - k) from if_neg (by omega), dT (by omega), cT, dT (by omega), bS, cT, f1.some hk', bS, idx_getD [] (by omega) (by rw [f1.len]; omega), bS, idx_getD 0 (by omega) (by omega), bS]
            simp only [Int.toNat_natCast]
            have g1' := f1.setRow (i := k) (r := ((l12.getD k []).set j (rest.getD (u0 + (j - k)) 0))) hk' (by rw [List.length_set]; exact f1.row k hk') (fun q hq => by
              rw [getD_set (by rw [f1.row k hk']; exact hjt)]; split
              · exact hv
              · exact f1.lt k hk' q hq)
            obtain ⟨s1, s2⟩ := sym f1 f2 hk' hjt hv
            rw [idx_getD 0 (by omega) (by rw [f1.row k hk']; omega), bS, bS, bS, rd f1 hjt hk', bS, idx_getD [] (by omega) (by rw [g1'.len]; omega), bS]
            simp only [Int.toNat_natCast]
            rw [rd g1' hjt hk', bS, bS, bS, addI_some (by omega) (by omega), bS, addI_some (by omega) (by omega), bS]
            refine ⟨_, rfl, ⟨s1, s2, j + 1, rfl, by omega, by omega, ?_⟩, by show t + 1 - ((j : Int) + 1).toNat < t + 1 - ((j : Nat) : Int).toNat; omega⟩
            show ((u0 + (j - k) : Nat) : Int) + 1 = _
            rw [if_neg (by omega)]; omega
          · have hc : (bif decide (((j : Nat) : Int) ≤ (t : Int)) then some (decide (((k : Nat) : Int) > (0 : Int))) else some false) = some false := by
              by_cases g1 : j ≤ t
              · rw [dT (by omega), cT, dF (by omega)]
              · rw [dF (by omega), cF]
            rw [hc, bS, cF]
            refine ⟨_, rfl, f1, f2, ?_⟩
            show ((if k = 0 then u0 else u0 + (j - k) : Nat) : Int) = _
            by_cases g0 : k = 0
            · rw [if_pos g0, if_pos g0]
            · rw [if_neg g0, if_neg g0]
              have : j = t + 1 := by omega
              rw [this])
        (s := (l11, ((u0 : Nat) : Int), ((k : Nat) : Int))) ⟨c1, c2, k, rfl, Nat.le_refl k, by omega, by show ((u0 : Nat) : Int) = _; split <;> simp⟩ (by show t + 1 - _ < _; omega)
      rw [ec, bS]
      refine ⟨_, rfl, e1', e2', .inr ⟨by omega, _, e3', ?_⟩⟩
      by_cases g0 : k = 0
      · rw [if_pos g0]
        rcases b3 with ⟨_, hx⟩ | ⟨hk1, _⟩
        · have : u0 = 0 := by have : x9 = 0 := hx; omega
          rw [this, g0]; simp
        · omega
      · rw [if_neg g0]
        have := hu1 (by omega)
        have := rmS k (by omega) (by omega)
        have e : t + 1 - (k + 1) = t - k := by omega
        rw [e]; omega)
  rw [eb, bS]
  exact ⟨l7, rfl, b1, b2⟩
end Pu
