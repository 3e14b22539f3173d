/- Plain laws of the reference's decoder: it answers as the program's does. -/
import Derived.Test.YtclhpomlfadohaaGreatDoorPh2
set_option linter.unusedVariables false
namespace Pu
open Gw Gl Sp Lean.Grind
section
variable {p : Nat} [NeZero p]
theorem refErrors_ok (hp : Sup p) {pts : List T_api_Point} {f : List Nat} (hP : Pts p pts) (hf : Lt p f) (hl : pts.length ≤ 100) :
    privityref08_ErrorPositions p f pts = some ((wrongs p pts f).map fun i => ((i : Nat) : Int)) := by
  unfold privityref08_ErrorPositions
  rw [Nat.sub_zero]
  obtain ⟨l, e, h⟩ := rgS_inv (body := fun k1 (st : (List Int)) => privityref08_ErrorPositions_L0 p f pts k1 st) (rem := pts.length) (k := 0) (s := ([] : List Int))
    (fun k l => l = ((List.range k).filter fun i => decide (evl (P p f) (o p (pts.getD i default).X) ≠ o p (pts.getD i default).Y)).map fun i => ((i : Nat) : Int)) rfl (fun k l _ hk h => by
      unfold privityref08_ErrorPositions_L0
      obtain ⟨y, ey, y1, y2⟩ := refEval_ok hp hf (hP.x k (by omega))
      have hll : l.length ≤ k := by rw [h, List.length_map]; exact Nat.le_trans (List.length_filter_le ..) (by simp)
      rw [ix default (by omega), bS, ey, bS, List.range_succ, List.filter_append, List.map_append, ← h]
      by_cases g : y = (pts.getD k default).Y
      · rw [qF (by omega), cF]
        refine ⟨_, rfl, ?_⟩
        have : decide (evl (P p f) (o p (pts.getD k default).X) ≠ o p (pts.getD k default).Y) = false := by rw [← y2, g]; simp
        simp only [List.filter_cons, this, List.filter_nil]
        simp
      · rw [qT (by omega), cT, appO_some (by simp; omega) (by simp; omega), bS]
        refine ⟨_, rfl, ?_⟩
        have : decide (evl (P p f) (o p (pts.getD k default).X) ≠ o p (pts.getD k default).Y) = true := by
          rw [← y2]; exact decide_eq_true fun e => g (o_inj y1 (hP.y k (by omega)) e)
        simp only [List.filter_cons, this, List.filter_nil]
        simp)
  rw [Nat.zero_add] at h
  rw [e, bS, h]; rfl
def sub (pts : List T_api_Point) (js : List Nat) : List T_api_Point := js.map fun i => pts.getD i default
theorem sub_get {pts : List T_api_Point} {js : List Nat} {i : Nat} (h : i < js.length) : (sub pts js).getD i default = pts.getD (js.getD i 0) default := by
  unfold sub
  rw [List.getD_eq_getElem?_getD, List.getElem?_map, List.getElem?_eq_getElem h, List.getD_eq_getElem?_getD (l := js), List.getElem?_eq_getElem h]; rfl
theorem getD_mem' {js : List Nat} {i : Nat} (h : i < js.length) : js.getD i 0 ∈ js := by
  rw [List.getD_eq_getElem?_getD, List.getElem?_eq_getElem h]; exact List.getElem_mem h
omit [NeZero p] in
theorem Pts_sub {pts : List T_api_Point} {js : List Nat} (hP : Pts p pts) (hs : js.Pairwise (· < ·)) (hlt : ∀ i ∈ js, i < pts.length) : Pts p (sub pts js) := by
  have hl : (sub pts js).length = js.length := by simp [sub]
  refine ⟨fun i hi => ?_, fun i hi => ?_, fun i hi j hj => ?_⟩
  · rw [hl] at hi; rw [sub_get hi]; exact hP.x _ (hlt _ (getD_mem' hi))
  · rw [hl] at hi; rw [sub_get hi]; exact hP.y _ (hlt _ (getD_mem' hi))
  · rw [hl] at hi
    rw [sub_get hi, sub_get (by omega)]
    refine hP.ne _ (hlt _ (getD_mem' hi)) _ ?_
    have := List.pairwise_iff_getElem.1 hs j i (by omega) hi hj
    rw [List.getD_eq_getElem?_getD, List.getElem?_eq_getElem (by omega), List.getD_eq_getElem?_getD, List.getElem?_eq_getElem hi]; exact this
/-- a polynomial with few wrong words through the chosen points -/
structure Hit (p : Nat) [NeZero p] (pts : List T_api_Point) (deg w : Nat) (l f0 : List Nat) : Prop where
  inc : l.Pairwise (· < ·)
  lt : ∀ i ∈ l, i < pts.length
  len : f0.length ≤ deg + 1
  on : ∀ i ∈ l, evl (P p f0) (o p (pts.getD i default).X) = o p (pts.getD i default).Y
  few : (wrongs p pts f0).length ≤ w
theorem rfind_ok (hp : Sup p) {pts : List T_api_Point} {deg w : Nat} (hP : Pts p pts) (hl : pts.length ≤ 13) (hd : deg ≤ 12) :
    ∀ (more k : Nat) (js : List Nat) (b : Nat), more < k → js.length + more = deg + 1 → js.Pairwise (· < ·) → (∀ i ∈ js, i < b) → b ≤ pts.length →
      ∃ f ok, privityref08_find k p pts (sub pts js) ((b : Nat) : Int) ((more : Nat) : Int) ((w : Nat) : Int) = some (f, ok) ∧ (ok = true → Lt p f ∧ f.length ≤ deg + 1 ∧ (wrongs p pts f).length ≤ w) ∧
        (ok = false → ∀ ks f0 : List Nat, ks.length = more → (∀ i ∈ ks, b ≤ i) → ¬ Hit p pts deg w (js ++ ks) f0)
  | 0, 0, _, _, h, _, _, _, _ => by omega
  | 0, k + 1, js, b, hk, hlen, hs, hb, hbn => by
    have hsl : (sub pts js).length = js.length := by simp [sub]
    have hlt : ∀ i ∈ js, i < pts.length := fun i hi => by have := hb i hi; omega
    obtain ⟨f, ef, f1, f2, f3⟩ := polynomial_ok hp (Pts_sub hP hs hlt) (by omega)
    rw [hsl] at f2 f3
    show ∃ f ok, privityref08_find_B (privityref08_find k) p pts (sub pts js) ((b : Nat) : Int) ((0 : Nat) : Int) ((w : Nat) : Int) = some (f, ok) ∧ _
    unfold privityref08_find_B
    rw [eT (by omega), cT, ef, bS]
    simp only
    rw [refErrors_ok hp hP f1 (by omega), bS, List.length_map]
    refine ⟨_, _, rfl, fun h => ⟨f1, by omega, ?_⟩, fun h ks f0 hks _ hh => ?_⟩
    · have := _root_.of_decide_eq_true h
      omega
    · have h0 : ks = [] := List.eq_nil_of_length_eq_zero hks
      subst h0
      have hn := _root_.of_decide_eq_false h
      obtain ⟨_, _, g3, g4, g5⟩ := hh
      rw [List.append_nil] at g4
      have hev : ∀ i, cf (P p f) i = cf (P p f0) i := eq_of_evl (R := Fin p) hp.nz (xs := js.map fun i => o p (pts.getD i default).X) (nodup_X hp hP js (hs.imp (fun {a b} h => by omega)) hlt) (by rw [P_len, List.length_map]; omega) (by rw [P_len, List.length_map]; omega) (fun x hx => by
        obtain ⟨i, hi, rfl⟩ := List.mem_map.1 hx
        obtain ⟨q, hq, rfl⟩ := List.mem_iff_getElem.1 hi
        have h1 := f3 q hq
        rw [sub_get hq, List.getD_eq_getElem?_getD (l := js), List.getElem?_eq_getElem hq] at h1
        rw [g4 _ hi]; exact h1)
      have hw : wrongs p pts f = wrongs p pts f0 := by
        unfold wrongs
        congr 1
        funext i
        rw [evl_congr hev]
      rw [hw] at hn
      omega
  | more + 1, 0, _, _, h, _, _, _, _ => by omega
  | more + 1, k + 1, js, b, hk, hlen, hs, hb, hbn => by
    have hsl : (sub pts js).length = js.length := by simp [sub]
    show ∃ f ok, privityref08_find_B (privityref08_find k) p pts (sub pts js) ((b : Nat) : Int) ((more + 1 : Nat) : Int) ((w : Nat) : Int) = some (f, ok) ∧ _
    unfold privityref08_find_B
    rw [eF (by omega), cF]
    obtain ⟨r, er, hr⟩ := lpO_big (step := fun (st : Int) => privityref08_find_L0 p pts (sub pts js) ((more + 1 : Nat) : Int) ((w : Nat) : Int) (privityref08_find k) st)
      (fun st => ∃ i : Nat, st = i ∧ b ≤ i ∧ i ≤ pts.length ∧ ∀ ks f0 : List Nat, ks.length = more + 1 → (∀ q ∈ ks, b ≤ q) → ks.getD 0 0 < i → ¬ Hit p pts deg w (js ++ ks) f0)
      (fun (r : ((List Nat) × Bool) ⊕ Unit) => match r with
        | .inl q => q.2 = true ∧ Lt p q.1 ∧ q.1.length ≤ deg + 1 ∧ (wrongs p pts q.1).length ≤ w
        | .inr _ => ∀ ks f0 : List Nat, ks.length = more + 1 → (∀ q ∈ ks, b ≤ q) → ¬ Hit p pts deg w (js ++ ks) f0)
      (fun st => pts.length - st.toNat) (fun st ⟨i, h1, h2, h3, h4⟩ => by
        subst h1
        unfold privityref08_find_L0
        by_cases g : i < pts.length
        · have e1 : (sub pts js) ++ [pts.getD i default] = sub pts (js ++ [i]) := by simp [sub]
          have e2 : ((more + 1 : Nat) : Int) - 1 = ((more : Nat) : Int) := by omega
          have e3 : ((i : Nat) : Int) + 1 = ((i + 1 : Nat) : Int) := by omega
          obtain ⟨f, ok, ef, f1, f2⟩ := rfind_ok hp (w := w) hP hl hd more k (js ++ [i]) (i + 1) (by omega) (by simp; omega) (List.pairwise_append.2 ⟨hs, List.pairwise_singleton .., fun x hx y hy => by
            rw [List.mem_singleton] at hy
            have := hb x hx; omega⟩) (fun x hx => by
              rcases List.mem_append.1 hx with hx | hx
              · have := hb x hx; omega
              · rw [List.mem_singleton] at hx; omega) (by omega)
          rw [dT (by omega), cT, appO_some (by simp; omega) (by simp; omega), bS, List.nil_append, idx_getD default (by omega) (by omega), bS, Int.toNat_natCast, appO_some (by simp; omega) (by simp; omega), bS, addI_some (by omega) (by omega), bS, subI_some (by omega) (by omega), bS, e1, e2, e3, ef, bS]
          simp only
          cases ok with
          | true =>
            rw [cT]
            exact ⟨_, rfl, rfl, f1 rfl⟩
          | false =>
            rw [cF]
            refine ⟨_, rfl, ⟨i + 1, rfl, by omega, by omega, fun ks f0 k1 k2 k3 hh => ?_⟩, by omega⟩
            by_cases c : ks.getD 0 0 < i
            · exact h4 ks f0 k1 k2 c hh
            · match ks, k1 with
              | q :: ks', k1 =>
                have hq : q = i := by
                  have k3' : q < i + 1 := k3
                  have c' : ¬ q < i := c
                  omega
                subst hq
                have hinc := hh.inc
                refine f2 rfl ks' f0 (by simpa using k1) (fun x hx => ?_) ⟨?_, ?_, hh.len, ?_, hh.few⟩
                · have h5 := (List.pairwise_append.1 hinc).2.1
                  have := (List.pairwise_cons.1 h5).1 x hx
                  omega
                · rw [List.append_assoc]; exact hinc
                · rw [List.append_assoc]; exact hh.lt
                · rw [List.append_assoc]; exact hh.on
        · rw [dF (by omega), cF]
          refine ⟨_, rfl, fun ks f0 k1 k2 hh => ?_⟩
          refine h4 ks f0 k1 k2 ?_ hh
          have := hh.lt (ks.getD 0 0) (List.mem_append_right _ (getD_mem' (by omega)))
          omega)
      (s := ((b : Nat) : Int)) ⟨b, rfl, Nat.le_refl _, hbn, fun ks f0 k1 k2 k3 => by
        have := k2 _ (getD_mem' (show 0 < ks.length by omega))
        omega⟩ (by omega)
    rw [er, bS]
    cases r with
    | inl q =>
      obtain ⟨q1, q2, q3, q4⟩ := hr
      obtain ⟨f, ok⟩ := q
      rw [sbL]
      exact ⟨f, ok, rfl, fun _ => ⟨q2, q3, q4⟩, fun h => by rw [show ok = true from q1] at h; cases h⟩
    | inr _ =>
      rw [sbR]
      exact ⟨_, _, rfl, (fun h => by cases h), fun _ => hr⟩
omit [NeZero p] in
theorem refMay_ok {pts : List T_api_Point} {deg w : Nat} (hP : Pts p pts) (hn : deg + 1 + 2 * w ≤ pts.length) (hl : pts.length ≤ 100) : privityref08_May pts ((deg : Nat) : Int) ((w : Nat) : Int) = some true := by
  have e1 : ((deg : Nat) : Int) + 1 = ((deg + 1 : Nat) : Int) := by omega
  have e2 : (2 : Int) * ((w : Nat) : Int) = ((2 * w : Nat) : Int) := by omega
  have e3 : ((deg + 1 : Nat) : Int) + ((2 * w : Nat) : Int) = ((deg + 1 + 2 * w : Nat) : Int) := by omega
  unfold privityref08_May
  rw [dF (by omega), cF, dF (by omega), cF, dF (by omega), cF, dF (by omega), cF, addI_some (by omega) (by omega), bS, e1, mulI_some (by omega) (by omega), bS, e2, addI_some (by omega) (by omega), bS, e3, dF (by omega), bS, cF, Nat.sub_zero]
  obtain ⟨o1, e, ho⟩ := rgO_inv (body := fun k1 (st : Unit) => privityref08_May_L0 pts k1) (fun _ _ => True) (fun _ => False) (rem := pts.length) (k := 0) (s := ()) trivial (fun i _ _ hi _ => by
    have hix : i < pts.length := by omega
    unfold privityref08_May_L0
    rw [ckN_some (by omega), bS, Nat.sub_zero]
    obtain ⟨o2, e2, ho2⟩ := rgO_inv (body := fun k2 (st : Unit) => privityref08_May_L1 pts i k2) (fun _ _ => True) (fun _ => False) (rem := i) (k := 0) (s := ()) trivial (fun j _ _ hj _ => by
      have := hP.ne i hix j (by omega)
      unfold privityref08_May_L1
      rw [ix default hix, bS, ix default (by omega), bS, eF (by omega), cF]
      exact ⟨_, rfl, trivial⟩)
    rw [e2, bS]
    cases o2 with
    | fin _ => exact ho2.elim
    | go _ => rw [oG]; exact ⟨_, rfl, trivial⟩)
  rw [e, bS]
  cases o1 with
  | fin _ => exact ho.elim
  | go _ => rw [oG]
/-- the two decoders answer alike -/
theorem dec_eq (hp : Sup p) {pts : List T_api_Point} {deg w : Nat} (hP : Pts p pts) (hn : deg + 1 + 2 * w ≤ pts.length) (hl : pts.length ≤ 13) :
    ∃ f at_ e f' e', reedsolomon_Decode p pts ((deg : Nat) : Int) ((w : Nat) : Int) = some (f, at_, e) ∧ privityref08_Decode p pts ((deg : Nat) : Int) ((w : Nat) : Int) = some (f', at_, e') ∧ Lt p f ∧ Lt p f' ∧ f.length ≤ deg + 1 ∧ f'.length ≤ deg + 1 ∧ (∀ i, f.getD i 0 = f'.getD i 0) ∧ (e = 0 ↔ e' = 0) := by
  have e1 : ((deg : Nat) : Int) + 1 = ((deg + 1 : Nat) : Int) := by omega
  obtain ⟨f, at_, e, ed, f1, f2, hc⟩ := decode_full (deg := deg) (w := w) hp hP hn hl
  obtain ⟨f', ok, ef, g1, g2⟩ := rfind_ok (deg := deg) hp (w := w) hP hl (by omega) (deg + 1) 64 [] 0 (by omega) (by simp) List.Pairwise.nil (fun i hi => by simp at hi) (by omega)
  have ef' : privityref08_find 64 p pts [] ((0 : Nat) : Int) ((deg + 1 : Nat) : Int) ((w : Nat) : Int) = some (f', ok) := ef
  refine ⟨f, at_, e, ?_⟩
  unfold privityref08_Decode
  rw [ed, refMay_ok hP hn (by omega), bS, nT, cF, addI_some (by omega) (by omega), bS, e1, ef', bS]
  simp only
  rcases hc with ⟨rfl, rfl, c3⟩ | ⟨c1, rfl, rfl, c4⟩
  · have hok : ok = true := by
      cases ok with
      | true => rfl
      | false =>
        exfalso
        let good := (List.range pts.length).filter fun i => !decide (evl (P p f) (o p (pts.getD i default).X) ≠ o p (pts.getD i default).Y)
        have hcount : good.length + (wrongs p pts f).length = pts.length := by
          have := filter_len (List.range pts.length) (fun i => decide (evl (P p f) (o p (pts.getD i default).X) ≠ o p (pts.getD i default).Y))
          rw [List.length_range] at this
          show (List.filter _ _).length + (List.filter _ _).length = _
          omega
        have hinc : good.Pairwise (· < ·) := List.Pairwise.filter _ List.pairwise_lt_range
        refine g2 rfl (good.take (deg + 1)) f (by rw [List.length_take]; omega) (fun i _ => Nat.zero_le _) ?_
        rw [List.nil_append]
        refine ⟨hinc.sublist (List.take_sublist ..), fun i hi => ?_, f2, fun i hi => ?_, c3⟩
        · have := (List.mem_filter.1 (List.mem_of_mem_take hi)).1
          simpa using this
        · have := (List.mem_filter.1 (List.mem_of_mem_take hi)).2
          simpa using this
    subst hok
    obtain ⟨h1, h2, h3⟩ := g1 rfl
    have hu : ∀ i, f.getD i 0 = f'.getD i 0 := fun i => o_inj (f1.get hp.pos i) (h1.get hp.pos i) (wrongs_uniq hp hP hn f2 h2 c3 h3 i)
    rw [nT, cF, refErrors_ok hp hP h1 (by omega), bS]
    have hw : wrongs p pts f' = wrongs p pts f := by
      unfold wrongs
      congr 1
      funext i
      rw [P_eq hu]
    refine ⟨f', 0, trivial, by rw [hw]; rfl, f1, h1, f2, h2, hu, Iff.rfl⟩
  · have hok : ok = false := by
      cases ok with
      | false => rfl
      | true =>
        obtain ⟨h1, h2, h3⟩ := g1 rfl
        exact absurd h3 (c4 f' h2)
    subst hok
    rw [nF, cT]
    exact ⟨[], ((9 : Nat) : Int), trivial, rfl, fun i hi => by simp at hi, fun i hi => by simp at hi, by simp, by simp, fun _ => rfl, ⟨fun h => absurd h c1, fun h => by simp at h⟩⟩
end
end Pu
