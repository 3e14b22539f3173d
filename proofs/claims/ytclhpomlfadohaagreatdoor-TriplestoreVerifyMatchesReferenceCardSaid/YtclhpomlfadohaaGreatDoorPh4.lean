/- Plain laws of the reference's network: it does as the program's does. -/
import Derived.Test.YtclhpomlfadohaaGreatDoorPb9
import Derived.Test.YtclhpomlfadohaaGreatDoorPh2
set_option linter.unusedVariables false
namespace Pu
open Gw Gl Sp Lean.Grind
theorem rgS_two {S : Type} {b c : Nat → S → Option S} (I : Nat → S → Prop) : ∀ {rem k : Nat} {s : S}, I k s → (∀ j s, k ≤ j → j < k + rem → I j s → ∃ s', b j s = some s' ∧ c j s = some s' ∧ I (j + 1) s') → ∃ s', rgS b rem k s = some s' ∧ rgS c rem k s = some s' ∧ I (k + rem) s'
  | 0, k, s, h, _ => ⟨s, rfl, rfl, h⟩
  | rem + 1, k, s, h, hb => by
    obtain ⟨s1, e1, e1', h1⟩ := hb k s (Nat.le_refl k) (by omega) h
    obtain ⟨s2, e2, e2', h2⟩ := rgS_two I (rem := rem) (k := k + 1) h1 (fun j s h3 h4 h5 => hb j s (by omega) (by omega) h5)
    exact ⟨s2, by simp only [rgS, e1, e2], by simp only [rgS, e1', e2'], by rw [show k + (rem + 1) = k + 1 + rem by omega]; exact h2⟩
theorem rgS_shift {S : Type} {c : Nat → S → Option S} : ∀ {rem k : Nat} {s : S}, rgS c rem (k + 1) s = rgS (fun j => c (j + 1)) rem k s
  | 0, _, _ => rfl
  | rem + 1, k, s => by
    simp only [rgS]
    cases c (k + 1) s with
    | none => rfl
    | some s' => exact rgS_shift
theorem rgS_imp {S : Type} {b c : Nat → S → Option S} : ∀ {rem k : Nat} {s r : S}, (∀ j s s', b j s = some s' → c j s = some s') → rgS b rem k s = some r → rgS c rem k s = some r
  | 0, _, _, _, _, h => h
  | rem + 1, k, s, r, hb, h => by
    simp only [rgS] at h ⊢
    cases e : b k s with
    | none => rw [e] at h; cases h
    | some s' => rw [e] at h; rw [hb k s s' e]; exact rgS_imp hb h
theorem bindImp {α β : Type} {x y : Option α} {f g : α → Option β} {r : β} (hxy : ∀ a, x = some a → y = some a) (hfg : ∀ a, f a = some r → g a = some r) (h : (x >>= f) = some r) : (y >>= g) = some r := by
  cases e : x with
  | none => rw [e, bN] at h; cases h
  | some a => rw [e, bS] at h; rw [hxy a e, bS]; exact hfg a h
theorem bad_ok {w : T_api_Scenario} {i : Int} : privityref13_bad w i = some (decide (i ∈ w.Corrupt)) := by
  unfold privityref13_bad
  rw [Nat.sub_zero]
  obtain ⟨o, e, ho⟩ := rgO_inv (body := fun k1 (st : Unit) => privityref13_bad_L0 w i k1) (fun k _ => ∀ q, q < k → w.Corrupt.getD q 0 ≠ i) (fun r => r = true ∧ i ∈ w.Corrupt) (rem := w.Corrupt.length) (k := 0) (s := ()) (fun q hq => by omega) (fun k _ _ hk h => by
    unfold privityref13_bad_L0
    have hkl : k < w.Corrupt.length := by omega
    rw [ix 0 hkl, bS]
    by_cases g : w.Corrupt.getD k 0 = i
    · rw [eT g, cT]
      refine ⟨_, rfl, rfl, ?_⟩
      rw [← g, List.getD_eq_getElem?_getD, List.getElem?_eq_getElem hkl]
      exact List.getElem_mem hkl
    · rw [eF g, cF]
      refine ⟨_, rfl, fun q hq => ?_⟩
      by_cases c : q = k
      · rw [c]; exact g
      · exact h q (by omega))
  rw [e, bS]
  cases o with
  | fin r => rw [oF, ho.1, dT ho.2]
  | go _ =>
    rw [oG, dF]
    intro hv
    obtain ⟨q, hq, hqe⟩ := List.getElem_of_mem hv
    refine ho q (by omega) ?_
    rw [List.getD_eq_getElem?_getD, List.getElem?_eq_getElem hq]; exact hqe
theorem refWord_eq {l : List Nat} {i : Int} : privityref13_word l i = adversary_word l i := rfl
/-- a deviation -/
theorem told_eq {w : T_api_Scenario} {n t : Nat} (s : Sc w n t) {x : T_api_Deviation} {l said said' : List Nat} (hx : x ∈ w.Deviations) (hl : Lt w.S.P l) (hll : l.length ≤ 100) (hs : Lt w.S.P said) (hsl : said.length ≤ 100) (he : x.Kind = 3 → said' = said) :
    privityref13_told w x l said' = adversary_upon w x l said := by
  have hp := s.sup
  have hlt := hp.lt
  obtain ⟨d1, d2, d3, d4, d5, d6, d7, d8⟩ := s.dv x hx
  unfold privityref13_told adversary_upon
  by_cases k4 : x.Kind = 4
  · rw [eT k4, cT, cT]
  · rw [eF k4, cF, cF]
    by_cases ha : x.At < (l.length : Int)
    · have hk := Nat.mod_lt x.K hp.pos
      have hat : x.At.toNat < l.length := by omega
      have hla := hl _ hat
      have hi := idx_getD 0 d3 ha
      rw [dF (show ¬ x.At < 0 by omega), cF, dF (show ¬ x.At ≥ ((l.length : Nat) : Int) by omega), bS, cF, cF, appO_some (by simp; omega) (by simp; omega), List.nil_append, remU_ok' hp.pos, reduce_ok hp d8, clone_ok (by omega)]
      by_cases k1 : x.Kind = 1
      · simp only [eT k1, cT, bS]
      · by_cases k2 : x.Kind = 2
        · have a1 := refAdd_ok hp (a := l.getD x.At.toNat 0) (b := x.K % w.S.P) (by omega)
          have a2 := add_ok hp (a := l.getD x.At.toNat 0) (b := x.K % w.S.P) (by omega)
          simp only [eF k1, cF, eT k2, cT, hi, bS, a1, a2]
        · by_cases k3 : x.Kind = 3
          · obtain ⟨y, ey, hy⟩ := word_ok (l := said) (i := x.SrcIndex) (by omega)
            have hyp := hy _ hp.pos hs
            by_cases g : x.Of ∈ w.Corrupt
            · have hm0 : x.K % w.S.P * 0 % w.S.P = 0 := by simp
              have e0 : (l.getD x.At.toNat 0 + x.K % w.S.P * 0 % w.S.P) % w.S.P = l.getD x.At.toNat 0 := by rw [hm0, Nat.add_zero, Nat.mod_eq_of_lt hla]
              have a1 := mul_ok hp hk hp.pos
              have a2 := add_ok hp (a := l.getD x.At.toNat 0) (b := x.K % w.S.P * 0 % w.S.P) (by rw [hm0]; omega)
              simp only [eF k1, eF k2, cF, eT k3, cT, bad_ok, contains_ok, bS, dT g, nT, hi, a1, a2, e0, set_getD_self hat]
            · have hm := Nat.mod_lt (x.K % w.S.P * y) hp.pos
              have a1 := mul_ok hp hk hyp
              have a2 := add_ok hp (a := l.getD x.At.toNat 0) (b := x.K % w.S.P * y % w.S.P) (by omega)
              have a3 := refMul_ok hp hk (b := y) (by omega)
              have a4 := refAdd_ok hp (a := l.getD x.At.toNat 0) (b := x.K % w.S.P * y % w.S.P) (by omega)
              have a5 : remU y w.S.P = some y := by rw [remU_ok' hp.pos, Nat.mod_eq_of_lt hyp]
              simp only [eF k1, eF k2, cF, eT k3, cT, bad_ok, contains_ok, bS, he k3, dF g, nF, hi, refWord_eq, ey, a1, a2, a3, a4, a5]
          · simp only [eF k1, eF k2, eF k3, cF, bS]
    · rw [dF (show ¬ x.At < 0 by omega), cF, dT (show x.At ≥ ((l.length : Nat) : Int) by omega), bS, cT, cT]
/-- the deviations of a round -/
theorem apply_two {w : T_api_Scenario} {n t L : Nat} (s : Sc w n t) {out : List (List (List Nat))} {round : Int} (ho : Sq w.S.P n L out) (hL : L ≤ 100) :
    ∃ all, adversary_ApplyToMessages w round out = some all ∧ privityref13_ApplyToMessages w round out = some all := by
  have h13 := s.n13
  unfold adversary_ApplyToMessages privityref13_ApplyToMessages
  rw [ho.len, mkO_some (by omega) (by omega) (by omega) (by omega), bS, Nat.sub_zero, Int.toNat_natCast]
  obtain ⟨l3, e3, h1, h2⟩ := rgS_inv (body := fun k1 (st : (List (List (List Nat)))) => adversary_ApplyToMessages_L0 out k1 st) (rem := n) (k := 0) (s := List.replicate n [])
    (fun k l => l.length = n ∧ ∀ i, i < k → l.getD i [] = out.getD i []) ⟨by simp, fun i hi => by omega⟩ (fun k l _ hk ⟨h1, h2⟩ => by
      have hk' : k < n := by omega
      unfold adversary_ApplyToMessages_L0
      rw [ho.s1 hk', bS, clones_ok (by rw [ho.row k hk']; omega), bS, ix [] (by omega), bS, bS]
      refine ⟨_, rfl, by rw [List.length_set]; exact h1, fun i hi => ?_⟩
      rw [getD_set (by omega)]
      by_cases g : k = i
      · rw [if_pos g, g]
      · rw [if_neg g]; exact h2 i (by omega))
  have hl3 : l3 = out := by
    apply List.ext_getElem?
    intro i
    by_cases g : i < n
    · rw [ix [] (by omega), ix [] (by rw [ho.len]; omega), h2 i (by omega)]
    · rw [List.getElem?_eq_none (by omega), List.getElem?_eq_none (by rw [ho.len]; omega)]
  subst hl3
  obtain ⟨l4, e4, h4⟩ := rgS_inv (body := fun k1 (st : (List (List (List Nat)))) => privityref13_ApplyToMessages_L0 l3 k1 st) (rem := n) (k := 0) (s := ([] : List (List (List Nat))))
    (fun k l => l = l3.take k) (by simp) (fun k l _ hk h => by
      have hk' : k < n := by omega
      have hll : l.length = k := by rw [h]; simp; omega
      have hrow := ho.row k hk'
      unfold privityref13_ApplyToMessages_L0
      rw [ho.s1 hk', bS, appO_some (by simp only [List.length_nil]; omega) (by simp only [List.length_nil]; omega), bS, List.nil_append, appO_some (by simp only [List.length_cons, List.length_nil]; omega) (by simp only [List.length_cons, List.length_nil]; omega), bS]
      refine ⟨_, rfl, ?_⟩
      rw [List.take_add_one, ho.s1 hk', h]; rfl)
  have hl4 : l4 = l3 := by rw [h4, Nat.zero_add, List.take_of_length_le (by omega)]
  subst hl4
  rw [e3, bS, e4, bS, Nat.sub_zero]
  obtain ⟨all, e, e', _⟩ := rgS_two (b := fun k2 (st : (List (List (List Nat)))) => adversary_ApplyToMessages_L1 w round l4 k2 st) (c := fun k2 (st : (List (List (List Nat)))) => privityref13_ApplyToMessages_L1 w round l4 k2 st) (rem := w.Deviations.length) (k := 0) (s := l4)
    (fun _ all => Sq w.S.P n L all) ho (fun k all _ hk k1 => by
      have hkd : k < w.Deviations.length := by omega
      unfold adversary_ApplyToMessages_L1 privityref13_ApplyToMessages_L1
      rw [ix default hkd, bS, bS]
      have hx : w.Deviations.getD k default ∈ w.Deviations := by
        rw [List.getD_eq_getElem?_getD, List.getElem?_eq_getElem hkd]; exact List.getElem_mem hkd
      generalize w.Deviations.getD k default = x at hx
      obtain ⟨d1, d2, d3, d4, d5, d6, d7, d8⟩ := s.dv x hx
      unfold adversary_done
      by_cases g : x.Round = round ∧ x.From ∈ w.Corrupt
      · rw [eT g.1, cT, contains_ok, bS, bS, dT g.2, nT, cF, qF g.1, cF, bad_ok, bS, bS, dT g.2, nT, cF]
        have hf : x.From.toNat - 1 < n := by omega
        have hfe : (x.From - 1).toNat = x.From.toNat - 1 := by omega
        obtain ⟨said, es, hs1, hs2, hs3⟩ : ∃ said, (bif x.Kind == (3 : Int) then
            subI x.Of (1 : Int) >>= fun x6 => idx l4 x6 >>= fun x7 => subI x.From (1 : Int) >>= fun x8 => idx x7 x8 >>= fun x9 => some x9
          else some ([] : List Nat)) = some said ∧ Lt w.S.P said ∧ said.length ≤ 100 ∧ ∃ said', privityref13_heard l4 x = some said' ∧ (x.Kind = 3 → said' = said) := by
          have hh : ∃ said', privityref13_heard l4 x = some said' ∧ (1 ≤ x.Of → said' = (l4.getD (x.Of - 1).toNat []).getD (x.From - 1).toNat []) := by
            unfold privityref13_heard
            by_cases c : x.Of < 1
            · rw [dT c, cT]; exact ⟨_, rfl, fun h => by omega⟩
            · have hoe : (x.Of - 1).toNat < n := by omega
              rw [dF c, cF, subI_some (by omega) (by omega), bS, idx_getD [] (by omega) (by rw [ho.len]; omega), bS, subI_some (by omega) (by omega), bS, idx_getD [] (by omega) (by rw [ho.row _ hoe]; omega), bS]
              exact ⟨_, rfl, fun _ => rfl⟩
          obtain ⟨said', eh, hh2⟩ := hh
          by_cases k3 : x.Kind = 3
          · have h7 := d7 k3
            have hoe : (x.Of - 1).toNat < n := by omega
            rw [eT k3, cT, subI_some (by omega) (by omega), bS, idx_getD [] (by omega) (by rw [ho.len]; omega), bS, subI_some (by omega) (by omega), bS, idx_getD [] (by omega) (by rw [ho.row _ hoe]; omega), bS]
            have := ho.w _ hoe (x.From - 1).toNat (by omega)
            exact ⟨_, rfl, this.1, by omega, said', eh, fun _ => hh2 h7⟩
          · rw [eF k3, cF]; exact ⟨_, rfl, fun i hi => by simp at hi, by simp, said', eh, fun h => absurd h k3⟩
        obtain ⟨said', eh, hs4⟩ := hs3
        have hm : max 1 (w.S.N + 1).toNat = n + 1 := by rw [s.N]; omega
        rw [es, bS, subI_some (by omega) (by omega), bS, idx_getD [] (by omega) (by rw [k1.len]; omega), bS, hfe, k1.row _ hf, ckN_some (by omega), bS, Nat.sub_zero, hm, ckN_some (by omega), bS, Nat.add_sub_cancel, rgS_shift (k := 0)]
        obtain ⟨all', e1', e2', q1⟩ := rgS_two (b := fun k3 (st : (List (List (List Nat)))) => adversary_ApplyToMessages_L2 w x said (x.From - 1) k3 st) (c := fun k3 (st : (List (List (List Nat)))) => privityref13_ApplyToMessages_L2 w l4 x (k3 + 1) st) (rem := n) (k := 0) (s := all)
          (fun _ a => Sq w.S.P n L a) k1 (fun j a _ hj q1 => by
            have hjn : j < n := by omega
            have ej : ((j + 1 : Nat) : Int) = ((j : Nat) : Int) + 1 := by omega
            unfold adversary_ApplyToMessages_L2 privityref13_ApplyToMessages_L2
            rw [addI_some (by omega) (by omega), bS, ej]
            have : ∃ b, (bif (((j : Nat) : Int) + 1) != x.From then bif x.To == (0 : Int) then some true else some (x.To == (((j : Nat) : Int) + 1)) else some false) = some b := by
              by_cases g1 : ((j : Nat) : Int) + 1 = x.From
              · rw [qF g1, cF]; exact ⟨_, rfl⟩
              · rw [qT g1, cT]
                by_cases g2 : x.To = 0
                · rw [eT g2, cT]; exact ⟨_, rfl⟩
                · rw [eF g2, cF]; exact ⟨_, rfl⟩
            obtain ⟨b, eb⟩ := this
            rw [eb, bS, bS]
            cases b with
            | false => rw [cF, cF]; exact ⟨_, rfl, rfl, q1⟩
            | true =>
              obtain ⟨hw1, hw2⟩ := q1.w _ hf j hjn
              obtain ⟨r, er, r1, r2⟩ := upon_ok s hx hw1 (by omega) hs1 hs2
              have er' := (told_eq s hx hw1 (by omega) hs1 hs2 hs4).trans er
              have ej2 : ((j : Nat) : Int) + 1 - 1 = (j : Int) := by omega
              have x1 : idx a (x.From - 1) = some (a.getD (x.From.toNat - 1) []) := by rw [idx_getD [] (by omega) (by rw [q1.len]; omega), hfe]
              have x2 := q1.s2 hf hjn
              have x3 : idx (a.getD (x.From.toNat - 1) []) ((j : Nat) : Int) = some ((a.getD (x.From.toNat - 1) []).getD j []) := by rw [idx_getD [] (by omega) (by rw [q1.row _ hf]; omega), Int.toNat_natCast]
              have y1 : subI x.From 1 = some (x.From - 1) := subI_some (by omega) (by omega)
              have y2 : subI (((j : Nat) : Int) + 1) 1 = some ((j : Nat) : Int) := by rw [subI_some (by omega) (by omega), ej2]
              simp only [cT, x1, x2, x3, y1, y2, bS, er, eh, er', hfe, Int.toNat_natCast]
              exact ⟨_, rfl, rfl, q1.setW hf hjn ⟨r1, by omega⟩⟩)
        rw [e1', bS, e2', bS]
        exact ⟨_, rfl, rfl, q1⟩
      · have c1 : (bif x.Round == round then slices_Contains_Lint_int w.Corrupt x.From >>= fun r1 => some r1 else some false) = some false := by
          by_cases g1 : x.Round = round
          · rw [eT g1, cT, contains_ok, bS, dF (fun h => g ⟨g1, h⟩)]
          · rw [eF g1, cF]
        have c2 : (bif x.Round != round then some true else privityref13_bad w x.From >>= fun r3 => some (!r3)) = some true := by
          by_cases g1 : x.Round = round
          · rw [qF g1, cF, bad_ok, bS, dF (fun h => g ⟨g1, h⟩), nF]
          · rw [qT g1, cT]
        rw [c1, bS, nF, cT, c2, bS, cT]
        exact ⟨_, rfl, rfl, k1⟩)
  rw [e, bS, e', bS]
  exact ⟨_, rfl, rfl⟩
theorem hear_imp {zw : T_api_Scenario} {zr : Int} {zv : List (List T_api_Event)} {zt : List Unit} {zt' : List Unit} {j k : Int} {l : List Nat} {v : List (List T_api_Event)} (h : network_Net_note ⟨zw, zr, zv, zt⟩ j k l = some v) : privityref14_Net_hear ⟨zw, zr, zv, zt'⟩ j k l = some v := by
  unfold network_Net_note at h
  unfold privityref14_Net_hear
  by_cases g : j = k
  · rw [qF g, cF, bS, cF] at h
    rw [qF g.symm, cF, bS, cF]; exact h
  · rw [qT g, cT] at h
    rw [qT (fun e => g e.symm), cT]
    by_cases g2 : ((l.length : Nat) : Int) > 0
    · rw [dT g2, bS, cT] at h
      rw [dT g2, bS, cT]
      refine bindImp (fun a h => h) (fun x2 h => ?_) h
      refine bindImp (fun a h => h) (fun x3 h => ?_) h
      have ha : ∀ {b : Nat} {β : Type} {f : List Nat → Option β} {r : β}, (appO b ([] : List Nat) l >>= f) = some r → f l = some r := fun {b β f r} h => by
        unfold appO at h
        split at h
        · rw [bS, List.nil_append] at h; exact h
        · rw [bN] at h; cases h
      exact ha h
    · rw [dF g2, bS, cF] at h
      rw [dF g2, bS, cF]; exact h
/-- a round -/
theorem refSend_ok {net : T_network_Net} {m : T_privityref14_Net} {n t L : Nat} (s : Sc net.zw n t) (hz : m.zw = net.zw) (hr : m.zround = net.zround) (hv : m.zviews = net.zviews) {out : List (List (List Nat))} (ho : Sq net.zw.S.P n L out) (hL : L ≤ 100) {res : (List (List (List Nat))) × Int × (List (List T_api_Event))} (es : network_Net_Send net out = some res) : privityref14_Net_Send m out = some res := by
  have h13 := s.n13
  obtain ⟨all, ea, ea'⟩ := apply_two (round := net.zround) s ho hL
  obtain ⟨zw, zr, zv, zt⟩ := net
  obtain ⟨zw', zr', zv', zt'⟩ := m
  replace hz : zw' = zw := hz
  replace hr : zr' = zr := hr
  replace hv : zv' = zv := hv
  subst hz; subst hr; subst hv
  have hmx : max 0 zw'.S.N.toNat = n := by have : zw'.S.N = n := s.N; rw [this]; simp
  have eN : zw'.S.N = (n : Int) := s.N
  unfold network_Net_Send at es
  unfold privityref14_Net_Send
  simp only at es ea ea' ⊢
  rw [ea, bS, eN, mkO_some (by omega) (by omega) (by omega) (by omega), bS, Int.toNat_natCast, List.length_replicate, Nat.sub_zero] at es
  rw [ea', bS, hmx, eN, mkO_some (by omega) (by omega) (by omega) (by omega), bS, Int.toNat_natCast, ckN_some (by omega), bS, Nat.sub_zero]
  refine bindImp (fun a h => ?_) (fun a h => h) es
  refine rgS_imp (fun j st st' h => ?_) h
  unfold network_Net_Send_L0 at h
  unfold privityref14_Net_Send_L0
  simp only at h ⊢
  rw [hmx, ckN_some (by omega), bS] at h
  rw [hmx]
  refine bindImp (fun a h => ?_) (fun a h => h) h
  refine rgS_imp (fun i st st' h => ?_) h
  unfold network_Net_Send_L1 at h
  unfold privityref14_Net_Send_L1
  refine bindImp (fun a h => h) (fun x3 h => ?_) h
  refine bindImp (fun a h => h) (fun x4 h => ?_) h
  refine bindImp (fun a h => h) (fun l10 h => ?_) h
  refine bindImp (fun a h => h) (fun x5 h => ?_) h
  refine bindImp (fun a h => h) (fun l11 h => ?_) h
  refine bindImp (fun a h => h) (fun l12 h => ?_) h
  exact bindImp (fun a h => hear_imp h) (fun r4 h => h) h
theorem refView_eq {net : T_network_Net} {m : T_privityref14_Net} (hv : m.zviews = net.zviews) (i : Int) : privityref14_Net_View m i = network_Net_View net i := by
  unfold privityref14_Net_View network_Net_View
  rw [hv]
/-- the reference's network stands -/
theorem refNew_full {w : T_api_Scenario} {n t : Nat} (v : Va w n t) (hv : privityref12_ValidScenario w = some true) : ∃ zt, privityref14_New w = some (.inr ⟨w, 0, List.replicate n [], zt⟩) := by
  have h13 := v.n13
  unfold privityref14_New
  have hm : max 0 w.S.N.toNat = n := by rw [v.N]; simp
  rw [hv, bS, nT, cF, v.N, mkO_some (by omega) (by omega) (by omega) (by omega), bS, ← v.N, hm, ckN_some (by omega), bS, Nat.sub_zero]
  obtain ⟨l, e, h⟩ := rgS_inv (body := fun k1 (st : (List Unit)) => privityref14_New_L0 w k1 st) (rem := n) (k := 0) (s := ([] : List Unit)) (fun k l => l.length = k) rfl (fun k l _ hk h => by
    have hts := v.ts k (by omega)
    unfold privityref14_New_L0 privityref11_New
    rw [ix [] (by have := v.tl; omega), bS, appO_some (by simp only [List.length_nil]; omega) (by simp only [List.length_nil]; omega), bS, bS, appO_some (by simp; omega) (by simp; omega), bS]
    exact ⟨_, rfl, by simp [h]⟩)
  rw [e, bS]
  refine ⟨l, ?_⟩
  rw [v.N, Int.toNat_natCast]; rfl
end Pu
