/- Plain laws of polynomials. -/
import Derived.Test.YtclhpomlfadohaaGreatDoorPb3
set_option linter.unusedVariables false
namespace Pu
open Gw Gl Sp Lean.Grind
def Lt (p : Nat) (l : List Nat) : Prop := ∀ i, i < l.length → l.getD i 0 < p
theorem Lt.get {p : Nat} {l : List Nat} (hp : 0 < p) (h : Lt p l) (i : Nat) : l.getD i 0 < p := by
  by_cases g : i < l.length
  · exact h i g
  · rw [List.getD_eq_getElem?_getD, List.getElem?_eq_none (by omega)]; exact hp
theorem getD_ge {α : Type} {l : List α} {i : Nat} {d : α} (h : l.length ≤ i) : l.getD i d = d := by
  rw [List.getD_eq_getElem?_getD, List.getElem?_eq_none h]; rfl
/-- the degree -/
theorem degree_ok {f : List Nat} (h : f.length ≤ 1000) : ∃ k : Nat, k ≤ f.length ∧ poly_Degree f = some ((k : Int) - 1) ∧ (∀ i, k ≤ i → f.getD i 0 = 0) ∧ (k = 0 ∨ f.getD (k - 1) 0 ≠ 0) := by
  unfold poly_Degree
  rw [subI_some (by omega) (by omega), bS]
  obtain ⟨o, e, ho⟩ := lpO_big (step := fun (st : Int) => poly_Degree_L0 f st) (fun st => ∃ k : Nat, st = (k : Int) - 1 ∧ k ≤ f.length ∧ ∀ i, k ≤ i → f.getD i 0 = 0)
    (fun (o : Int ⊕ Unit) => ∃ k : Nat, k ≤ f.length ∧ (∀ i, k ≤ i → f.getD i 0 = 0) ∧ ((o = .inr () ∧ k = 0) ∨ (o = .inl ((k : Int) - 1) ∧ 0 < k ∧ f.getD (k - 1) 0 ≠ 0))) (fun st => (st + 1).toNat) (fun st ⟨k, h1, h2, h3⟩ => by
      subst h1
      unfold poly_Degree_L0
      by_cases g : k = 0
      · subst g
        rw [dF (by omega), cF]
        exact ⟨_, rfl, 0, by omega, h3, .inl ⟨rfl, rfl⟩⟩
      · rw [dT (by omega), cT, idx_getD 0 (by omega) (by omega), bS]
        have e1 : ((k : Int) - 1).toNat = k - 1 := by omega
        rw [e1]
        by_cases z : f.getD (k - 1) 0 = 0
        · rw [qF (by omega), cF, subI_some (by omega) (by omega), bS]
          refine ⟨_, rfl, ⟨k - 1, by omega, by omega, fun i hi => ?_⟩, by omega⟩
          by_cases e : i = k - 1
          · subst e; exact z
          · exact h3 i (by omega)
        · rw [qT (by omega), cT]
          exact ⟨_, rfl, k, h2, h3, .inr ⟨rfl, by omega, z⟩⟩)
    (s := ((f.length : Nat) : Int) - 1) ⟨f.length, rfl, Nat.le_refl _, fun i hi => getD_ge hi⟩ (by omega)
  rw [e, bS]
  obtain ⟨k, h1, h2, ⟨rfl, rfl⟩ | ⟨rfl, h3, h4⟩⟩ := ho
  · exact ⟨0, by omega, by rw [sbR]; rfl, h2, .inl rfl⟩
  · exact ⟨k, h1, by rw [sbL], h2, .inr h4⟩
/-- without zeros at the end -/
theorem trim_ok {f : List Nat} (h : f.length ≤ 1000) : ∃ t : List Nat, poly_Trim f = some t ∧ t.length ≤ f.length ∧ (∀ i, t.getD i 0 = f.getD i 0) ∧ (t = [] ∨ t.getD (t.length - 1) 0 ≠ 0) := by
  obtain ⟨k, h1, h2, h3, h4⟩ := degree_ok h
  unfold poly_Trim
  have e0 : (k : Int) - 1 + 1 = (k : Int) := by omega
  rw [h2, bS, addI_some (by omega) (by omega), bS, e0, cutO_some (by omega) (by omega) (by omega), bS]
  have e1 : List.take (((k : Int)).toNat - (0 : Int).toNat) (List.drop ((0 : Int).toNat) f) = f.take k := by simp
  rw [e1, appO_some (by simp; omega) (by simp; omega), bS, List.nil_append]
  have hl : (f.take k).length = k := by simp; omega
  have hg : ∀ i, (f.take k).getD i 0 = f.getD i 0 := fun i => by
    by_cases g : i < k
    · rw [List.getD_eq_getElem?_getD, List.getElem?_take, if_pos g, ← List.getD_eq_getElem?_getD]
    · rw [getD_ge (by omega), h3 i (by omega)]
  refine ⟨_, rfl, by omega, hg, ?_⟩
  rcases h4 with rfl | h4
  · left; simp
  · right; rw [hl, hg]; exact h4
theorem coef_ok {f : List Nat} {i : Nat} (h : f.length ≤ 1000) : poly_Coefficient f ((i : Nat) : Int) = some (f.getD i 0) := by
  unfold poly_Coefficient
  rw [dF (by omega), cF]
  by_cases g : i < f.length
  · rw [dF (by omega), cF, idx_getD 0 (by omega) (by omega), bS]; simp
  · rw [dT (by omega), cT, getD_ge (by omega)]
section
variable {p : Nat} [NeZero p]
def P (p : Nat) [NeZero p] (f : List Nat) : List (Fin p) := f.map (o p)
theorem P_len (f : List Nat) : (P p f).length = f.length := by simp [P]
theorem P_cf (f : List Nat) (i : Nat) : cf (P p f) i = o p (f.getD i 0) := by
  unfold cf P
  rw [List.getD_eq_getElem?_getD, List.getElem?_map, List.getD_eq_getElem?_getD]
  cases f[i]? with
  | none => exact o_zero.symm
  | some x => rfl
theorem P_congr {f g : List Nat} (h : ∀ i, f.getD i 0 = g.getD i 0) (x : Fin p) : evl (P p f) x = evl (P p g) x := evl_congr (fun i => by rw [P_cf, P_cf, h i]) x
theorem eval_ok (hp : Sup p) {f : List Nat} {x : Nat} (hf : Lt p f) (hx : x < p) (h : f.length ≤ 1000) : ∃ y, poly_Eval p f x = some y ∧ y < p ∧ o p y = evl (P p f) (o p x) := by
  have hl := hp.lt
  unfold poly_Eval
  rw [subI_some (by omega) (by omega), bS]
  obtain ⟨r, e, h1, h2⟩ := lpO_big (step := fun (st : Nat × Int) => poly_Eval_L0 p f x st.1 st.2) (fun st => ∃ k : Nat, st.2 = (k : Int) - 1 ∧ k ≤ f.length ∧ st.1 < p ∧ o p st.1 = evl (P p (f.drop k)) (o p x))
    (fun r => r < p ∧ o p r = evl (P p f) (o p x)) (fun st => (st.2 + 1).toNat) (fun st ⟨k, h1, h2, h3, h4⟩ => by
      obtain ⟨a, z⟩ := st
      simp only at h1 h3 h4
      subst h1
      unfold poly_Eval_L0
      by_cases g : k = 0
      · subst g
        rw [dF (by omega), cF]
        exact ⟨_, rfl, h3, h4⟩
      · have e1 : ((k : Int) - 1).toNat = k - 1 := by omega
        have hm := Nat.mod_lt (a * x) hp.pos
        have hfk := hf (k - 1) (by omega)
        rw [dT (by omega), cT, mul_ok hp h3 hx, bS, idx_getD 0 (by omega) (by omega), bS, e1, add_ok hp (by omega), bS, subI_some (by omega) (by omega), bS]
        refine ⟨_, rfl, ⟨k - 1, by show (k : Int) - 1 - 1 = _; omega, by omega, Nat.mod_lt _ hp.pos, ?_⟩, by show ((k : Int) - 1 - 1 + 1).toNat < ((k : Int) - 1 + 1).toNat; omega⟩
        show o p _ = _
        have ed : f.drop (k - 1) = f.getD (k - 1) 0 :: f.drop k := by
          rw [List.drop_eq_getElem_cons (show k - 1 < f.length by omega), show k - 1 + 1 = k by omega, List.getD_eq_getElem?_getD, List.getElem?_eq_getElem (by omega)]; rfl
        rw [ed, o_mod, o_add, o_mod, o_mul, h4]
        show _ = o p _ + o p x * evl (P p (f.drop k)) (o p x)
        grind)
    (s := (0, ((f.length : Nat) : Int) - 1)) ⟨f.length, rfl, Nat.le_refl _, hp.pos, by
      show o p 0 = _
      rw [List.drop_length, o_zero]; rfl⟩ (by show ((f.length : Int) - 1 + 1).toNat < _; omega)
  rw [e, bS]
  exact ⟨r, rfl, h1, h2⟩
/-- one step of the division, coefficient by coefficient -/
theorem sub_shift {l l' b : List Nat} {k at_ : Nat} (h1 : ∀ j, j < at_ → o p (l'.getD j 0) = o p (l.getD j 0)) (h2 : ∀ j, o p (l'.getD (at_ + j) 0) = o p (l.getD (at_ + j) 0) - o p k * o p (b.getD j 0)) (x : Fin p) :
    evl (P p l') x = evl (P p l) x - o p k * x ^ at_ * evl (P p b) x := by
  have e : ∀ i, cf (P p l') i = cf (psub (P p l) (List.replicate at_ (0 : Fin p) ++ smul (o p k) (P p b))) i := fun i => by
    rw [cf_psub, P_cf, P_cf]
    by_cases g : i < at_
    · have : cf (List.replicate at_ (0 : Fin p) ++ smul (o p k) (P p b)) i = 0 := by
        unfold cf; rw [getD_app_l (by simpa using g)]; simp [List.getD_eq_getElem?_getD, g]
      rw [this, h1 i g]; grind
    · obtain ⟨j, rfl⟩ : ∃ j, i = at_ + j := ⟨i - at_, by omega⟩
      have : cf (List.replicate at_ (0 : Fin p) ++ smul (o p k) (P p b)) (at_ + j) = o p k * o p (b.getD j 0) := by
        rw [← P_cf, ← cf_smul]; unfold cf
        rw [List.getD_eq_getElem?_getD, List.getElem?_append_right (by simp), List.length_replicate, Nat.add_sub_cancel_left, ← List.getD_eq_getElem?_getD]
      rw [this, h2 j]
  rw [evl_congr e, evl_psub, evl_append, evl_smul, List.length_replicate]
  have z : evl (List.replicate at_ (0 : Fin p)) x = 0 := evl_cf0 (fun i => by unfold cf; by_cases g : i < at_ <;> simp [List.getD_eq_getElem?_getD, g]) x
  rw [z]; grind
theorem add_shift {l : List Nat} {k at_ : Nat} (hl : at_ < l.length) (h0 : l.getD at_ 0 = 0) (x : Fin p) : evl (P p (l.set at_ k)) x = evl (P p l) x + o p k * x ^ at_ := by
  have e : ∀ i, cf (P p (l.set at_ k)) i = cf (padd (P p l) (List.replicate at_ (0 : Fin p) ++ [o p k])) i := fun i => by
    rw [cf_padd, P_cf, P_cf, getD_set hl]
    by_cases g : at_ = i
    · subst g
      rw [if_pos rfl, h0, o_zero]
      have : cf (List.replicate at_ (0 : Fin p) ++ [o p k]) at_ = o p k := by unfold cf; exact getD_app_e (by simp)
      rw [this]; grind
    · rw [if_neg g]
      have : cf (List.replicate at_ (0 : Fin p) ++ [o p k]) i = 0 := by
        unfold cf
        by_cases g2 : i < at_
        · rw [getD_app_l (by simpa using g2)]; simp [List.getD_eq_getElem?_getD, g2]
        · rw [getD_ge (by simp; omega)]
      rw [this]; grind
  rw [evl_congr e, evl_padd, evl_append, List.length_replicate]
  have z : evl (List.replicate at_ (0 : Fin p)) x = 0 := evl_cf0 (fun i => by unfold cf; by_cases g : i < at_ <;> simp [List.getD_eq_getElem?_getD, g]) x
  rw [z]; simp only [evl]; grind
end
theorem Lt_set {p : Nat} {l : List Nat} {i v : Nat} (h : Lt p l) (hv : v < p) : Lt p (l.set i v) := fun j hj => by
  rw [List.length_set] at hj
  by_cases g : i < l.length
  · rw [getD_set g]; split
    · exact hv
    · exact h j hj
  · rw [List.set_eq_of_length_le (by omega)]; exact h j hj
section
variable {p : Nat} [NeZero p]
/-- division by a monic polynomial of degree w -/
theorem divmod_ok (hp : Sup p) {a b : List Nat} {w : Nat} (ha : Lt p a) (hb : Lt p b) (hbl : b.length = w + 1) (hb1 : b.getD w 0 = 1) (hal : a.length ≤ 900) (hw : w ≤ 900) :
    ∃ q r, poly_DivMod p a b = some (q, r, 0) ∧ Lt p q ∧ Lt p r ∧ r.length ≤ w ∧ (q.length = 0 ∨ q.length + w ≤ a.length) ∧ (q = [] ∨ q.getD (q.length - 1) 0 ≠ 0) ∧ (r = [] ∨ r.getD (r.length - 1) 0 ≠ 0) ∧ ∀ x : Fin p, evl (P p a) x = evl (P p b) x * evl (P p q) x + evl (P p r) x := by
  have hl := hp.lt
  unfold poly_DivMod
  -- the divisor is trimmed already
  obtain ⟨b', eb, b1, b2, b3⟩ := trim_ok (f := b) (by omega)
  have hbb : b' = b := by
    have hlen : b'.length = w + 1 := by
      apply Classical.byContradiction
      intro g
      have := b2 w
      rw [getD_ge (by omega), hb1] at this
      omega
    apply List.ext_getElem?
    intro i
    by_cases g : i < w + 1
    · rw [ix 0 (by omega), ix 0 (by omega), b2 i]
    · rw [List.getElem?_eq_none (by omega), List.getElem?_eq_none (by omega)]
  subst hbb
  have hinv : pow p 1 (p - 2) = 1 := by unfold pow; rw [Nat.one_pow]; exact Nat.mod_eq_of_lt (by omega)
  obtain ⟨t, et, t1, t2, t3⟩ := trim_ok (f := a) (by omega)
  have htl : Lt p t := fun i hi => by rw [t2]; exact ha.get hp.pos i
  have e1 : ((w + 1 : Nat) : Int) - 1 = (w : Int) := by omega
  rw [eb, bS, hbl, eF (by omega), cF, subI_some (by omega) (by omega), bS, e1, idx_getD 0 (by omega) (by omega), bS]
  simp only [Int.toNat_natCast]
  rw [hb1, inv_ok hp (by omega) (by omega), hinv, bS, et, bS, subI_some (by omega) (by omega), bS, addI_some (by omega) (by omega), bS, bS, mkO_some (by omega) (by omega) (by omega) (by omega), bS]
  have eQ : (max (0 : Int) ((t.length : Int) - ((w + 1 : Nat) : Int) + 1)).toNat = t.length - w := by omega
  rw [eQ]
  obtain ⟨⟨r, q⟩, e, r1, r2, r3, r4, r5, r6⟩ := lpO_big (step := fun (st : (List Nat) × (List Nat)) => poly_DivMod_L0 p b' (1, 0) st.1 st.2)
    (fun st => Lt p st.1 ∧ Lt p st.2 ∧ st.1.length ≤ t.length ∧ st.2.length = t.length - w ∧ (st.1 = [] ∨ st.1.getD (st.1.length - 1) 0 ≠ 0) ∧ (∀ i, i + w + 1 ≤ st.1.length → st.2.getD i 0 = 0) ∧ ∀ x : Fin p, evl (P p a) x = evl (P p b') x * evl (P p st.2) x + evl (P p st.1) x)
    (fun st => Lt p st.1 ∧ Lt p st.2 ∧ st.1.length ≤ w ∧ st.2.length = t.length - w ∧ (st.1 = [] ∨ st.1.getD (st.1.length - 1) 0 ≠ 0) ∧ ∀ x : Fin p, evl (P p a) x = evl (P p b') x * evl (P p st.2) x + evl (P p st.1) x) (fun st => st.1.length) (fun st ⟨h1, h2, h3, h4, h5, h6, h7⟩ => by
      obtain ⟨l2, l3⟩ := st
      replace h1 : Lt p l2 := h1
      replace h2 : Lt p l3 := h2
      replace h3 : l2.length ≤ t.length := h3
      replace h4 : l3.length = t.length - w := h4
      replace h5 : l2 = [] ∨ l2.getD (l2.length - 1) 0 ≠ 0 := h5
      replace h6 : ∀ i, i + w + 1 ≤ l2.length → l3.getD i 0 = 0 := h6
      replace h7 : ∀ x : Fin p, evl (P p a) x = evl (P p b') x * evl (P p l3) x + evl (P p l2) x := h7
      show ∃ o, poly_DivMod_L0 p b' (1, 0) l2 l3 = some o ∧ _
      unfold poly_DivMod_L0
      rw [hbl]
      by_cases c : w + 1 ≤ l2.length
      · have hat : ((l2.length - (w + 1) : Nat) : Int) = (l2.length : Int) - ((w + 1 : Nat) : Int) := by omega
        have htop := h1 (l2.length - 1) (by omega)
        rw [dT (by omega), cT, subI_some (by omega) (by omega), bS, subI_some (by omega) (by omega), bS, idx_getD 0 (by omega) (by omega), bS, ← hat]
        have et1 : ((l2.length : Int) - 1).toNat = l2.length - 1 := by omega
        rw [et1, mul_ok hp htop (by omega), bS, idx_getD 0 (by omega) (by omega), bS, bS, Nat.sub_zero]
        simp only [Int.toNat_natCast]
        generalize hk : l2.getD (l2.length - 1) 0 * 1 % p = k
        have hkp : k < p := by rw [← hk]; exact Nat.mod_lt _ hp.pos
        have hkt : k = l2.getD (l2.length - 1) 0 := by rw [← hk, Nat.mul_one, Nat.mod_eq_of_lt htop]
        generalize hA : l2.length - (w + 1) = A
        have hAl : A + w + 1 = l2.length := by omega
        obtain ⟨l10, e10, k1, k2, k3, k4⟩ := rgS_inv (body := fun k1 (st : (List Nat)) => poly_DivMod_L1 p b' ((A : Nat) : Int) k k1 st) (rem := w + 1) (k := 0) (s := l2)
          (fun j l => l.length = l2.length ∧ Lt p l ∧ (∀ i, (i < A ∨ A + j ≤ i) → l.getD i 0 = l2.getD i 0) ∧ (∀ i, i < j → o p (l.getD (A + i) 0) = o p (l2.getD (A + i) 0) - o p k * o p (b'.getD i 0))) ⟨rfl, h1, fun _ _ => rfl, fun i hi => by omega⟩ (fun j l _ hj ⟨g1, g2, g3, g4⟩ => by
            have hbj := hb j (by omega)
            have hAj : (((A : Nat) : Int) + ((j : Nat) : Int)) = ((A + j : Nat) : Int) := by omega
            unfold poly_DivMod_L1
            rw [ix 0 (by omega), bS, addI_some (by omega) (by omega), bS, hAj, idx_getD 0 (by omega) (by omega), bS]
            simp only [Int.toNat_natCast]
            rw [mul_ok hp hkp hbj, bS, sub_ok hp (g2 _ (by omega)) (Nat.mod_lt _ hp.pos), bS, bS]
            refine ⟨_, rfl, by rw [List.length_set]; exact g1, Lt_set g2 (Nat.mod_lt _ hp.pos), fun i hi => ?_, fun i hi => ?_⟩
            · rw [getD_set (by omega), if_neg (by omega)]; exact g3 i (by omega)
            · rw [getD_set (by omega)]
              by_cases g : i = j
              · subst g
                rw [if_pos rfl, o_sub' (Nat.mod_lt _ hp.pos), o_mod, o_mul, g3 (A + i) (by omega)]
              · rw [if_neg (by omega)]; exact g4 i (by omega))
        rw [e10, bS]
        obtain ⟨t', e', u1, u2, u3⟩ := trim_ok (f := l10) (by omega)
        rw [e', bS]
        have hev : ∀ x : Fin p, evl (P p l10) x = evl (P p l2) x - o p k * x ^ A * evl (P p b') x := sub_shift (fun j hj => by rw [k3 j (by omega)]) (fun j => by
          by_cases g : j < w + 1
          · exact k4 j (by omega)
          · rw [k3 _ (by omega), getD_ge (l := b') (by omega), o_zero]; grind)
        have htz : l10.getD (l2.length - 1) 0 = 0 := by
          have z := k4 w (by omega)
          rw [hb1, show A + w = l2.length - 1 by omega, ← hkt, o_one] at z
          have z2 : o p (l10.getD (l2.length - 1) 0) = 0 := by rw [z]; grind
          rw [o_eq0, Nat.mod_eq_of_lt (k2 _ (by omega))] at z2
          exact z2
        have hlt : t'.length < l2.length := by
          apply Classical.byContradiction
          intro g
          have : t'.length = l2.length := by omega
          rcases u3 with u3 | u3
          · rw [u3] at this; simp at this; omega
          · rw [this, u2, htz] at u3; exact u3 rfl
        refine ⟨_, rfl, ⟨fun i hi => by rw [u2]; exact k2.get hp.pos i, Lt_set h2 hkp, by show t'.length ≤ _; omega, by show (l3.set A k).length = _; rw [List.length_set]; exact h4, u3, fun i hi => ?_, fun x => ?_⟩, hlt⟩
        · show (l3.set A k).getD i 0 = 0
          have hi' : i + w + 1 ≤ t'.length := hi
          rw [getD_set (by omega), if_neg (by omega)]; exact h6 i (by omega)
        · show evl (P p a) x = evl (P p b') x * evl (P p (l3.set A k)) x + evl (P p t') x
          rw [P_congr u2, hev, add_shift (by omega) (h6 A (by omega)), h7 x]; grind
      · rw [dF (by omega), cF]
        exact ⟨_, rfl, h1, h2, by show l2.length ≤ w; omega, h4, h5, h7⟩)
    (s := (t, List.replicate (t.length - w) 0)) ⟨htl, fun i hi => by simp at hi; simp [List.getD_eq_getElem?_getD, hi]; exact hp.pos, Nat.le_refl _, by simp, t3, fun i hi => by
      by_cases g : i < t.length - w <;> simp [List.getD_eq_getElem?_getD, g], fun x => by
      have z : evl (P p (List.replicate (t.length - w) 0)) x = 0 := evl_cf0 (fun i => by rw [P_cf]; by_cases g : i < t.length - w <;> simp [List.getD_eq_getElem?_getD, g, o_zero]) x
      show evl (P p a) x = evl (P p b') x * evl (P p (List.replicate (t.length - w) 0)) x + evl (P p t) x
      rw [z, P_congr t2]; grind⟩ (by show t.length < _; omega)
  rw [e, bS]
  simp only at r1 r2 r3 r4 r5 r6 ⊢
  obtain ⟨q', eq', q1, q2, q3⟩ := trim_ok (f := q) (by omega)
  rw [eq', bS]
  exact ⟨q', r, rfl, fun i hi => by rw [q2]; exact r2.get hp.pos i, r1, r3, by omega, q3, r5, fun x => by rw [r6 x, P_congr q2]⟩
end
end Pu
