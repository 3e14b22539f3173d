/- Plain laws of chapter 47: privacy of recovering. -/
import Derived.Test.YtclhpomlfadohaaDoorVd4
import Derived.KernelRfl
set_option linter.unusedVariables false
namespace Pu
open Gw Gl Sp Lean.Grind
theorem rgO_go' {R : Type} {body : Nat → Unit → Option (Out Unit R)} : ∀ {n k : Nat}, (∀ j, k ≤ j → j < k + n → body j () = some (.go ())) → rgO body n k () = some (.go ())
  | 0, _, _ => rfl
  | n + 1, k, h => by
    simp only [rgO, h k (Nat.le_refl k) (by omega)]
    exact rgO_go' fun j h1 h2 => h j (by omega) (by omega)
theorem list_ext' {α : Type} {d : α} {a b : List α} (h1 : a.length = b.length) (h : ∀ i, i < a.length → a.getD i d = b.getD i d) : a = b := by
  apply List.ext_getElem?
  intro i
  by_cases g : i < a.length
  · rw [ix d g, ix d (by omega), h i g]
  · rw [List.getElem?_eq_none (by omega), List.getElem?_eq_none (by omega)]
theorem words_dec (a b : List Nat) : privityref14_Words a b = some (decide (a = b)) := by
  unfold privityref14_Words
  by_cases h : a.length = b.length
  · rw [qF (by omega), cF, Nat.sub_zero]
    obtain ⟨o1, e, ho⟩ := rgO_inv (body := fun k1 (st : Unit) => privityref14_Words_L0 a b k1) (fun k _ => ∀ i, i < k → a.getD i 0 = b.getD i 0) (fun r => r = false ∧ a ≠ b) (rem := a.length) (k := 0) (s := ()) (fun i hi => by omega) (fun k _ _ hk ih => by
      unfold privityref14_Words_L0
      rw [ix 0 (show k < a.length by omega), bS, ix 0 (show k < b.length by omega), bS]
      by_cases g : a.getD k 0 = b.getD k 0
      · rw [qF (by omega), cF]
        refine ⟨_, rfl, fun i hi => ?_⟩
        by_cases c : i < k
        · exact ih i c
        · have : i = k := by omega
          rw [this]; exact g
      · rw [qT (by omega), cT]; exact ⟨_, rfl, rfl, fun e => g (by rw [e])⟩)
    rw [e, bS]
    cases o1 with
    | fin r => rw [oF, ho.1, dF ho.2]
    | go _ => rw [oG, dT (list_ext' h fun i hi => ho i (by omega))]
  · rw [qT (by omega), cT, dF (fun e => h (by rw [e]))]
theorem lists_dec (a b : List (List Nat)) : privityref14_Lists a b = some (decide (a = b)) := by
  unfold privityref14_Lists
  by_cases h : a.length = b.length
  · rw [qF (by omega), cF, Nat.sub_zero]
    obtain ⟨o1, e, ho⟩ := rgO_inv (body := fun k1 (st : Unit) => privityref14_Lists_L0 a b k1) (fun k _ => ∀ i, i < k → a.getD i [] = b.getD i []) (fun r => r = false ∧ a ≠ b) (rem := a.length) (k := 0) (s := ()) (fun i hi => by omega) (fun k _ _ hk ih => by
      unfold privityref14_Lists_L0
      rw [ix [] (show k < a.length by omega), bS, ix [] (show k < b.length by omega), bS, words_dec, bS]
      by_cases g : a.getD k [] = b.getD k []
      · rw [dT g, nT, cF]
        refine ⟨_, rfl, fun i hi => ?_⟩
        by_cases c : i < k
        · exact ih i c
        · have : i = k := by omega
          rw [this]; exact g
      · rw [dF g, nF, cT]; exact ⟨_, rfl, rfl, fun e => g (by rw [e])⟩)
    rw [e, bS]
    cases o1 with
    | fin r => rw [oF, ho.1, dF ho.2]
    | go _ => rw [oG, dT (list_ext' h fun i hi => ho i (by omega))]
  · rw [qT (by omega), cT, dF (fun e => h (by rw [e]))]
theorem views_refl (a : List T_api_Event) : privityref14_Views a a = some true := by
  unfold privityref14_Views
  rw [qF rfl, cF, rgO_go' (fun j _ hj => by
    unfold privityref14_Views_L0
    rw [ix default (show j < a.length by omega), bS, bS, qF rfl, cF, qF rfl, cF, words_dec, bS, dT rfl, nT, cF]), bS, oG]
theorem rgS_congr {S : Type} {b c : Nat → S → Option S} : ∀ {rem k : Nat} {s : S}, (∀ j s, k ≤ j → j < k + rem → b j s = c j s) → rgS b rem k s = rgS c rem k s
  | 0, _, _, _ => rfl
  | rem + 1, k, s, h => by
    simp only [rgS, h k s (Nat.le_refl k) (by omega)]
    cases c k s with
    | none => rfl
    | some s' => exact rgS_congr fun j s h1 h2 => h j s (by omega) (by omega)
theorem rec_congr' {net : T_network_Net} {n w0 : Nat} (hN : net.zw.S.N = n) (h13 : n ≤ 13) {l l' : List (List (List Nat))} (hlen : l.length = l'.length) (h1 : ∀ k, k < l.length → (l.getD k []).length = n) (h2 : ∀ k, k < l.length → (l'.getD k []).length = n)
    (he : ∀ k, k < l.length → ∀ i, i < n → i ≠ w0 → poly_Eval net.zw.S.P ((l.getD k []).getD i []) (toU ((w0 + 1 : Nat) : Int)) = poly_Eval net.zw.S.P ((l'.getD k []).getD i []) (toU ((w0 + 1 : Nat) : Int))) : recovery_RecoverRows net ((w0 + 1 : Nat) : Int) l = recovery_RecoverRows net ((w0 + 1 : Nat) : Int) l' := by
  have e1 : ∀ (i : Nat) (st : List (List (List Nat))), i < n → recovery_RecoverRows_L0 ((w0 + 1 : Nat) : Int) l net.zw i st = recovery_RecoverRows_L0 ((w0 + 1 : Nat) : Int) l' net.zw i st := fun i st hi => by
    unfold recovery_RecoverRows_L0
    by_cases g : i = w0
    · have : (((i : Nat) : Int) + 1 == ((w0 + 1 : Nat) : Int)) = true := eT (by omega)
      rw [addI_some (by omega) (by omega)]
      simp only [bS, this, cT]
    · have hb : ∀ (st : List (List (List Nat))), rgS (fun k2 (st : (List (List (List Nat)))) => recovery_RecoverRows_L1 ((w0 + 1 : Nat) : Int) l net.zw i k2 st) (l.length - 0) 0 st = rgS (fun k2 (st : (List (List (List Nat)))) => recovery_RecoverRows_L1 ((w0 + 1 : Nat) : Int) l' net.zw i k2 st) (l'.length - 0) 0 st := fun st => by
        rw [← hlen]
        refine rgS_congr fun k st _ hk => ?_
        have hkl : k < l.length := by omega
        have a1 := h1 k hkl
        have a2 := h2 k hkl
        unfold recovery_RecoverRows_L1
        rw [ix [] hkl, ix [] (by omega : k < l'.length), bS, bS, ix [] (by omega : i < (l.getD k []).length), ix [] (by omega : i < (l'.getD k []).length)]
        simp only [bS, he k hkl i hi g]
      simp only [hb]
  have e2 : ∀ (w : T_api_Scenario) (x : List (List Nat)) (k : Nat) (st : List (List Nat)), recovery_RecoverRows_L2 ((w0 + 1 : Nat) : Int) l w x k st = recovery_RecoverRows_L2 ((w0 + 1 : Nat) : Int) l' w x k st := fun w x k st => by
    simp only [recovery_RecoverRows_L2, recovery_RecoverRows_L3, hlen]
  unfold recovery_RecoverRows network_Net_Scenario
  simp only [bS, hN]
  rw [mkO_some (by omega) (by omega) (by omega) (by omega)]
  simp only [bS, Int.toNat_natCast, List.length_replicate, Nat.sub_zero, e2, hlen]
  rw [rgS_congr (c := fun k1 (st : (List (List (List Nat)))) => recovery_RecoverRows_L0 ((w0 + 1 : Nat) : Int) l' net.zw k1 st) (fun j s _ hj => e1 j s (by omega))]
theorem new10_1 (A B C : Nat) : privityref10_New [A, B] [C] = some ([[A, B], [B, C]], ((0 : Nat) : Int)) := by kernel_rfl
theorem sharing1_ok {s : T_api_Params} {n : Nat} [NeZero s.P] (par : Par s n 1) {a b c : Nat} : ∃ rows, privityref23_NewSharing s a [b, c] = some rows ∧ rows.length = n ∧
    ∀ i, i < n → ∃ u v, rows.getD i [] = [u, v] ∧ u < s.P ∧ v < s.P ∧ o s.P u = o s.P a + o s.P b * o s.P (i + 1) ∧ o s.P v = o s.P b + o s.P c * o s.P (i + 1) := by
  have hp := par.sup
  have hlt := hp.lt
  have h13 := par.n13
  unfold privityref23_NewSharing
  rw [remU_ok hp.pos, bS]
  obtain ⟨⟨l5, l6⟩, e, hr⟩ := lpO_big (step := fun (st : (List Nat) × (List Nat) × Int) => privityref23_NewSharing_L0 s [b, c] st.1 st.2.1 st.2.2)
    (fun st => ∃ k : Nat, st.2.2 = k ∧ k ≤ 2 ∧ st.1 = (if k = 0 then [a % s.P] else [a % s.P, b % s.P]) ∧ st.2.1 = (if k ≤ 1 then [] else [c % s.P]))
    (fun r => r = ([a % s.P, b % s.P], [c % s.P])) (fun st => 2 - st.2.2.toNat) (fun st ⟨k, k1, k2, k3, k4⟩ => by
      obtain ⟨l1, l2, x⟩ := st
      replace k1 : x = k := k1
      replace k3 : l1 = (if k = 0 then [a % s.P] else [a % s.P, b % s.P]) := k3
      replace k4 : l2 = (if k ≤ 1 then [] else [c % s.P]) := k4
      subst k1; subst k3; subst k4
      show ∃ q, privityref23_NewSharing_L0 s [b, c] _ _ ((k : Nat) : Int) = some q ∧ _
      unfold privityref23_NewSharing_L0
      have e1 : ((1 : Nat) : Int) + 1 = 2 := rfl
      have e2 : ((1 : Nat) : Int) * 2 = 2 := rfl
      have e3 : divI (2 : Int) (2 : Int) = some 1 := by rfl
      have e4 : ((1 : Nat) : Int) + 1 = 2 := rfl
      rw [par.T, addI_some (by omega) (by omega), bS, e1, mulI_some (by omega) (by omega), bS, e2, e3, bS, addI_some (by omega) (by omega), bS, e4]
      have hk : k = 0 ∨ k = 1 ∨ k = 2 := by omega
      rcases hk with rfl | rfl | rfl
      · rw [dT (by omega), cT, dT (by simp), cT, idx_getD 0 (by omega) (by simp), bS, remU_ok hp.pos, bS, bS, dT (by omega), cT, appO_some (by simp) (by simp), bS, addI_some (by omega) (by omega), bS]
        exact ⟨_, rfl, ⟨1, by show ((0 : Nat) : Int) + 1 = _; omega, by omega, rfl, rfl⟩, by show 2 - (((0 : Nat) : Int) + 1).toNat < 2 - ((0 : Nat) : Int).toNat; omega⟩
      · rw [dT (by omega), cT, dT (by simp), cT, idx_getD 0 (by omega) (by simp), bS, remU_ok hp.pos, bS, bS, dF (by omega), cF, appO_some (by simp) (by simp), bS, addI_some (by omega) (by omega), bS]
        exact ⟨_, rfl, ⟨2, by show ((1 : Nat) : Int) + 1 = _; omega, by omega, rfl, rfl⟩, by show 2 - (((1 : Nat) : Int) + 1).toNat < 2 - ((1 : Nat) : Int).toNat; omega⟩
      · rw [dF (by omega), cF]
        exact ⟨_, rfl, rfl⟩)
    (s := ([a % s.P], ([] : List Nat), ((0 : Nat) : Int))) ⟨0, rfl, by omega, rfl, rfl⟩ (by show 2 - _ < _; omega)
  obtain ⟨rfl, rfl⟩ := Prod.mk.inj hr
  rw [e, bS]
  simp only
  have hm : max 1 (s.N + 1).toNat = n + 1 := by rw [par.N]; omega
  have ha := Nat.mod_lt a hp.pos
  have hb := Nat.mod_lt b hp.pos
  have hc := Nat.mod_lt c hp.pos
  have hM : Mat s.P (1 + 1) (1 + 1) [[a % s.P, b % s.P], [b % s.P, c % s.P]] := by
    refine ⟨rfl, fun i hi => ?_, fun i hi j hj => ?_⟩
    · have : i = 0 ∨ i = 1 := by omega
      rcases this with rfl | rfl <;> rfl
    · have h1 : i = 0 ∨ i = 1 := by omega
      have h2 : j = 0 ∨ j = 1 := by omega
      rcases h1 with rfl | rfl <;> rcases h2 with rfl | rfl <;> assumption
  rw [new10_1, bS, hm, ckN_some (by omega), bS, Nat.add_sub_cancel]
  obtain ⟨rows, er, r1, r2⟩ := rgS_inv (body := fun k2 (st : (List (List Nat))) => privityref23_NewSharing_L1 s ([[a % s.P, b % s.P], [b % s.P, c % s.P]], ((0 : Nat) : Int)) k2 st) (rem := n) (k := 1) (s := ([] : List (List Nat)))
    (fun j l => l.length + 1 = j ∧ ∀ i, i + 1 < j → ∃ u v, l.getD i [] = [u, v] ∧ u < s.P ∧ v < s.P ∧ o s.P u = o s.P a + o s.P b * o s.P (i + 1) ∧ o s.P v = o s.P b + o s.P c * o s.P (i + 1)) ⟨rfl, fun i hi => by omega⟩ (fun j l hj1 hj ⟨r1, r2⟩ => by
      obtain ⟨r, e, q1, q2, q3⟩ := row10_ok (t := 1) (x := j) hp (by omega) hM (by omega)
      have hu : toU ((j : Nat) : Int) = j := by unfold toU; omega
      unfold privityref23_NewSharing_L1
      rw [hu, bS]
      simp only
      rw [e, bS, appO_some (by simp; omega) (by simp; omega), bS]
      refine ⟨_, rfl, by simp; omega, fun i hi => ?_⟩
      by_cases g : i + 1 < j
      · rw [getD_app_l (by omega)]; exact r2 i g
      · rw [getD_app_e (by omega)]
        have : j = i + 1 := by omega
        subst this
        obtain ⟨u, v, rfl⟩ : ∃ u v, r = [u, v] := by
          match r, q1 with
          | [u, v], _ => exact ⟨u, v, rfl⟩
        have g0 := q3 0 (by omega)
        have g1 := q3 1 (by omega)
        have p0 := q2 0 (by simp)
        have p1 := q2 1 (by simp)
        refine ⟨u, v, rfl, p0, p1, ?_, ?_⟩
        · have : evl (P s.P (col [[a % s.P, b % s.P], [b % s.P, c % s.P]] 1 0)) (o s.P (i + 1)) = o s.P (a % s.P) + o s.P (i + 1) * (o s.P (b % s.P) + o s.P (i + 1) * 0) := rfl
          rw [this, o_mod, o_mod] at g0
          rw [show o s.P u = _ from g0]; grind
        · have : evl (P s.P (col [[a % s.P, b % s.P], [b % s.P, c % s.P]] 1 1)) (o s.P (i + 1)) = o s.P (b % s.P) + o s.P (i + 1) * (o s.P (c % s.P) + o s.P (i + 1) * 0) := rfl
          rw [this, o_mod, o_mod] at g1
          rw [show o s.P v = _ from g1]; grind)
  rw [er, bS]
  exact ⟨rows, rfl, by omega, fun i hi => r2 i (by omega)⟩
theorem addU_ok {a b : Nat} (h : a + b < 18446744073709551616) : addU a b = a + b := Nat.mod_eq_of_lt h
theorem law_Privacy (z : T_privitylaw47_Ask) (a b : Nat) (hK : ∀ x ∈ z.W.Deviations, x.K < 18446744073709551616) (hW : z.Who < 256) (hb : ∀ l ∈ z.L, l.length ≤ 140737488355328) : privitylaw47_RecoveryPrivacy z a b = some true := by
  unfold privitylaw47_RecoveryPrivacy
  obtain ⟨bt, e, hbt⟩ := may47_ok hK
  rw [e, bS]
  cases bt with
  | false => rw [nF, cT, bS, cT, aw47, bS]
  | true =>
    obtain ⟨⟨n, t, v, hv⟩, hL, hS⟩ := hbt rfl
    have s := v.toSc
    have hp := s.sup
    haveI : NeZero z.W.S.P := hp.ne
    haveI : NeZero (netOf z.W n).zw.S.P := hp.ne
    have h13 := s.n13
    have h4 := s.n4
    have hlt := hp.lt
    rw [nT, cF]
    by_cases hT : z.W.S.T = 1
    · rw [qF hT, cF]
      by_cases hC : z.W.Corrupt.length = 0
      · have ht : t = 1 := by have := s.T; omega
        subst ht
        obtain ⟨m, em⟩ := nets47_ok v hv
        obtain ⟨ew, hw⟩ := who_ok (z := z) s.N (by omega) h13 hW
        rw [dF (by omega), bS, cF, ew, bS]
        generalize hw0 : z.Who % n = w0 at *
        have hu : toU ((w0 + 1 : Nat) : Int) = w0 + 1 := by unfold toU; omega
        have hX : w0 + 1 < z.W.S.P := by omega
        have ha := Nat.mod_lt a hp.pos
        have hbm := Nat.mod_lt b hp.pos
        have e5 : subU z.W.S.P 1 = z.W.S.P - 1 := subU_ok (by omega) (by omega)
        have hk := Nat.mod_lt (a % z.W.S.P) (show 0 < z.W.S.P - 1 by omega)
        rw [hu, bS, remU_ok hp.pos, bS, remU_ok hp.pos, bS, e5, bS, remU_ok (by omega), bS, addU_ok (by omega), bS]
        generalize hx3 : a % z.W.S.P = x3 at *
        generalize hx4 : b % z.W.S.P = x4 at *
        generalize hx7 : 1 + x3 % (z.W.S.P - 1) = x7 at *
        have hx7p : x7 < z.W.S.P := by omega
        have hx70 : x7 ≠ 0 := by omega
        obtain ⟨l, el, l1, l2⟩ := sharing1_ok v.par (a := x3) (b := x4) (c := x3)
        have hr5 := Nat.mod_lt ((w0 + 1) * (w0 + 1)) hp.pos
        have hr6 := Nat.mod_lt (x7 * ((w0 + 1) * (w0 + 1) % z.W.S.P)) hp.pos
        have hr7 := Nat.mod_lt (x7 * (w0 + 1)) hp.pos
        rw [el, bS, refMul_ok hp hX (by omega), bS, refMul_ok hp hx7p (by omega), bS, addU_ok (by omega), bS, remU_ok hp.pos, bS, addU_ok (by omega), bS, refMul_ok hp hx7p (by omega), bS, subU_ok (by omega) (by omega), bS, remU_ok hp.pos, bS, addU_ok (by omega), bS, remU_ok hp.pos, bS]
        have f9 : o z.W.S.P ((x3 + x7 * ((w0 + 1) * (w0 + 1) % z.W.S.P) % z.W.S.P) % z.W.S.P) = o z.W.S.P x3 + o z.W.S.P x7 * (o z.W.S.P (w0 + 1) * o z.W.S.P (w0 + 1)) := by
          rw [o_mod, o_add, o_mod, o_mul, o_mod, o_mul]
        have f12 : o z.W.S.P ((x4 + z.W.S.P - x7 * (w0 + 1) % z.W.S.P) % z.W.S.P) = o z.W.S.P x4 - o z.W.S.P x7 * o z.W.S.P (w0 + 1) := by
          rw [o_mod, o_sub (by omega), o_add, o_self, o_mod, o_mul]; grind
        have f14 : o z.W.S.P ((x3 + x7) % z.W.S.P) = o z.W.S.P x3 + o z.W.S.P x7 := by rw [o_mod, o_add]
        obtain ⟨l', el', l1', l2'⟩ := sharing1_ok v.par (a := (x3 + x7 * ((w0 + 1) * (w0 + 1) % z.W.S.P) % z.W.S.P) % z.W.S.P) (b := (x4 + z.W.S.P - x7 * (w0 + 1) % z.W.S.P) % z.W.S.P) (c := (x3 + x7) % z.W.S.P)
        rw [f9, f12, f14] at l2'
        have hev : ∀ {u v : Nat}, u < z.W.S.P → v < z.W.S.P → ∃ y, poly_Eval z.W.S.P [u, v] (w0 + 1) = some y ∧ y < z.W.S.P ∧ o z.W.S.P y = o z.W.S.P u + o z.W.S.P (w0 + 1) * (o z.W.S.P v + o z.W.S.P (w0 + 1) * 0) := fun {u v} h1 h2 => eval_ok hp (f := [u, v]) (fun i hi => by
          have : i = 0 ∨ i = 1 := by simp at hi; omega
          rcases this with rfl | rfl <;> assumption) hX (by simp)
        have hcongr := rec_congr' (net := netOf z.W n) (w0 := w0) s.N h13 (l := [l]) (l' := [l']) rfl (fun k hk => by
          have : k = 0 := by simpa using hk
          subst this; exact l1) (fun k hk => by
          have : k = 0 := by simpa using hk
          subst this; exact l1') (fun k hk i hi hne => by
          have : k = 0 := by simpa using hk
          subst this
          show poly_Eval z.W.S.P (l.getD i []) _ = poly_Eval z.W.S.P (l'.getD i []) _
          obtain ⟨u, v1, h1, h2, h3, h5, h6⟩ := l2 i hi
          obtain ⟨u', v1', h1', h2', h3', h5', h6'⟩ := l2' i hi
          obtain ⟨y, ey, y1, y2⟩ := hev h2 h3
          obtain ⟨y', ey', y1', y2'⟩ := hev h2' h3'
          rw [hu, h1, h1', ey, ey']
          refine congrArg some (o_inj (p := z.W.S.P) y1 y1' ?_)
          rw [y2, y2', h5, h6, h5', h6']; grind)
        have hne : l ≠ l' := by
          intro h
          obtain ⟨i, hi, hne⟩ : ∃ i, i < n ∧ i ≠ w0 := by
            by_cases g : w0 = 0
            · exact ⟨1, by omega, by omega⟩
            · exact ⟨0, by omega, fun e => g e.symm⟩
          obtain ⟨u, v1, h1, h2, h3, h5, h6⟩ := l2 i hi
          obtain ⟨u', v1', h1', h2', h3', h5', h6'⟩ := l2' i hi
          rw [h, h1'] at h1
          have huu : u' = u := (List.cons.inj h1).1
          rw [huu, h5] at h5'
          have hz : o z.W.S.P x7 * (o z.W.S.P (w0 + 1) * (o z.W.S.P (w0 + 1) - o z.W.S.P (i + 1))) = 0 := by grind
          have oz : ∀ {q : Nat}, q < z.W.S.P → o z.W.S.P q = 0 → q = 0 := fun {q} hq h => o_inj hq hp.pos (by rw [h, o_zero])
          rcases hp.nz _ _ hz with g | g
          · exact hx70 (oz hx7p g)
          · rcases hp.nz _ _ g with g | g
            · have := oz hX g; omega
            · have : o z.W.S.P (w0 + 1) = o z.W.S.P (i + 1) := by grind
              have := o_inj hX (by omega) this
              omega
        have hlen2 : ∀ i, i < n → (l.getD i []).length = 1 + 1 ∧ Lt z.W.S.P (l.getD i []) := fun i hi => by
          obtain ⟨u, v1, h1, h2, h3, _, _⟩ := l2 i hi
          rw [h1]
          refine ⟨rfl, fun q hq => ?_⟩
          have : q = 0 ∨ q = 1 := by simp at hq; omega
          rcases this with rfl | rfl <;> assumption
        obtain ⟨all, rows, views, er, _, r2, _, r4, _⟩ := recover_ok (net := netOf z.W n) (w0 := w0) (l := [l]) s (shs_of (m := 1) rfl (fun k hk => by
          have : k = 0 := by omega
          subst this; exact ⟨l1, hlen2⟩)) (by simp) (by simp) hw netOf_views.1 (fun j hj => by rw [netOf_views.2 j hj]; simp) ⟨by show (0 : Int) ≤ 0; omega, by show (0 : Int) ≤ 1000; omega⟩
        have hr4 := r4 w0 hw
        rw [netOf_views.2 w0 hw, List.length_nil] at hr4
        have er' := er
        rw [hcongr] at er'
        rw [el', bS, em, bS, sR, sR, sR, er, bS, er', bS, aw47, bS, cT]
        simp only
        rw [lists_dec, bS, dT rfl, cT, view_ok (net := ⟨(netOf z.W n).zw, (netOf z.W n).zround + 1, views, (netOf z.W n).ztapes⟩) (by show w0 < views.length; omega) (by show views.length ≤ 1000; omega) (by show (views.getD w0 []).length ≤ 1000; omega), bS, bS, views_refl, bS, cT, lists_dec, bS, dF hne]
        rfl
      · rw [dT (by omega), bS, cT, aw47, bS]
    · rw [qT hT, cT, bS, cT, aw47, bS]
end Pu
