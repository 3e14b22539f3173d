/- Plain laws of opening shares: what the values are. -/
import Derived.Test.YtclhpomlfadohaaGreatDoorPb8
set_option linter.unusedVariables false
namespace Pu
open Gw Gl Sp Lean.Grind
/-- decoding what was heard: the honest parties' polynomial, and who lied -/
theorem heard_ok {w : T_api_Scenario} {n t L : Nat} [NeZero w.S.P] (s : Sc w n t) {all : List (List (List Nat))} (sq : Sq w.S.P n L all) {j k : Nat} (hj : j < n) {f0 : List Nat} (hf : f0.length ≤ t + 1)
    (hh : ∀ i, i < n → (((i : Nat) : Int) + 1) ∉ w.Corrupt → o w.S.P (((all.getD i []).getD j []).getD k 0) = evl (P w.S.P f0) (o w.S.P (i + 1))) :
    ∃ pts f at_, reconstruct_points (wd all n j k) = some pts ∧ reedsolomon_Decode w.S.P pts w.S.T w.S.T = some (f, at_, 0) ∧ Lt w.S.P f ∧ f.length ≤ t + 1 ∧ (∀ i, o w.S.P (f.getD i 0) = o w.S.P (f0.getD i 0)) ∧
      at_ = ((List.range n).filter fun i => decide (evl (P w.S.P f0) (o w.S.P (i + 1)) ≠ o w.S.P (((all.getD i []).getD j []).getD k 0))).map fun i => ((i : Nat) : Int) := by
  have hp := s.sup
  have h13 := s.n13
  have h3 := s.t3
  have hwl : (wd all n j k).length = n := wd_len
  have hwp : Lt w.S.P (wd all n j k) := fun i hi => by
    rw [hwl] at hi
    rw [wd_get hi]
    exact (sq.w i hi j hj).1.get hp.pos k
  obtain ⟨pts, ep, p1, p2⟩ := points_ok (w := wd all n j k) (by omega)
  have hP := pts_ok hp hwp (by omega) p1 p2
  have hw : wrongs w.S.P pts f0 = (List.range n).filter fun i => decide (evl (P w.S.P f0) (o w.S.P (i + 1)) ≠ o w.S.P (((all.getD i []).getD j []).getD k 0)) := by
    unfold wrongs
    rw [p1, hwl]
    apply List.filter_congr
    intro i hi
    have hi' : i < n := by simpa using hi
    rw [p2 i (by omega), wd_get hi']
  have hc : (wrongs w.S.P pts f0).length ≤ t := by
    rw [hw, ← List.length_map (f := fun i => ((i : Nat) : Int) + 1)]
    refine Nat.le_trans (sub_len ?_ fun x hx => ?_) s.cl
    · rw [List.Nodup, List.pairwise_map]
      exact List.Pairwise.imp (fun {a b} h => by omega) (List.Pairwise.filter _ List.nodup_range)
    · obtain ⟨i, hi, rfl⟩ := List.mem_map.1 hx
      have hi2 := List.mem_filter.1 hi
      have hi' : i < n := by simpa using hi2.1
      apply Classical.byContradiction
      intro g
      have := hh i hi' g
      simp only [decide_eq_true_eq] at hi2
      exact hi2.2 this.symm
  obtain ⟨f, at_, e, ed, f1, f2, _, hgood⟩ := decode_ok (deg := t) (w := t) hp hP (by omega) (by omega)
  obtain ⟨rfl, g2, g3⟩ := hgood f0 hf hc
  rw [s.T]
  exact ⟨pts, f, at_, ep, ed, f1, f2, g2, by rw [g3, hw]⟩
/-- who lied to j, according to the polynomials -/
def liars (p : Nat) [NeZero p] (f0 : Nat → List Nat) (all : List (List (List Nat))) (n m j : Nat) : List Nat :=
  (List.range n).filter fun i => (List.range m).any fun k => decide (evl (P p (f0 k)) (o p (i + 1)) ≠ o p (((all.getD i []).getD j []).getD k 0))
theorem values_ok {net : T_network_Net} {n t m : Nat} [NeZero net.zw.S.P] (s : Sc net.zw n t) {sh : List (List Nat)} (h1 : sh.length = n) (h2 : ∀ i, i < n → Lt net.zw.S.P (sh.getD i []) ∧ (sh.getD i []).length = m) (hm : m ≤ 20) (hv : net.zviews.length = n) (hb : ∀ j, j < n → (net.zviews.getD j []).length ≤ 500) (hr : 0 ≤ net.zround ∧ net.zround ≤ 1000)
    (f0 : Nat → List Nat) (hf : ∀ k, k < m → (f0 k).length ≤ t + 1) (hh : ∀ i, i < n → (((i : Nat) : Int) + 1) ∉ net.zw.Corrupt → ∀ k, k < m → o net.zw.S.P ((sh.getD i []).getD k 0) = evl (P net.zw.S.P (f0 k)) (o net.zw.S.P (i + 1))) :
    ∃ all vals caught r views, reconstruct_Values net sh = some (vals, caught, r, views) ∧ Sq net.zw.S.P n 20 all ∧ (∀ i, i < n → (((i : Nat) : Int) + 1) ∉ net.zw.Corrupt → ∀ j, j < n → (all.getD i []).getD j [] = sh.getD i []) ∧ (r = net.zround ∨ r = net.zround + 1) ∧ vals.length = n ∧ caught.length = n ∧ views.length = n ∧
      (∀ j, j < n → (vals.getD j []).length = m ∧ ∀ k, k < m → (vals.getD j []).getD k 0 < net.zw.S.P ∧ o net.zw.S.P ((vals.getD j []).getD k 0) = o net.zw.S.P ((f0 k).getD 0 0)) ∧
      (∀ j, j < n → caught.getD j [] = (liars net.zw.S.P f0 all n m j).map fun i => ((i : Nat) : Int) + 1) ∧ ∀ j, j < n → (0 < m → views.getD j [] = net.zviews.getD j [] ++ evs net.zround all j n) ∧ (views.getD j []).length ≤ (net.zviews.getD j []).length + n := by
  have h13 := s.n13
  have h4 := s.n4
  have h3t := s.t3
  have hp := s.sup
  unfold reconstruct_Values network_Net_Scenario
  rw [bS, s.N, mkO_some (by omega) (by omega) (by omega) (by omega), bS, mkO_some (by omega) (by omega) (by omega) (by omega), bS, Int.toNat_natCast, ix [] (by omega), bS, (h2 0 (by omega)).2]
  by_cases hm0 : m = 0
  · rw [eT (by omega), cT]
    refine ⟨List.replicate n (List.replicate n []), _, _, _, _, rfl, ⟨by simp, fun i hi => by simp [List.getD_eq_getElem?_getD, hi], fun i hi j hj => by simp [List.getD_eq_getElem?_getD, hi, hj]; intro q hq; simp at hq⟩, fun i hi _ j hj => ?_, .inl rfl, by simp, by simp, hv, fun j hj => ⟨by simp [List.getD_eq_getElem?_getD, hj, hm0], fun k hk => by omega⟩, fun j hj => by subst hm0; simp [liars, List.getD_eq_getElem?_getD, hj], fun j hj => ⟨fun h => by omega, by omega⟩⟩
    have : sh.getD i [] = [] := List.eq_nil_of_length_eq_zero (by rw [(h2 i hi).2, hm0])
    rw [this]; simp [List.getD_eq_getElem?_getD, hi, hj]
  · rw [eF (by omega), cF]
    obtain ⟨all, heard, views, es, a1, a2, a3, a4, a5, a6⟩ := said_ok (L := 20) (m := m) s h1 (fun i hi => ⟨(h2 i hi).1, by rw [(h2 i hi).2]; exact hm⟩) (by omega) (by omega) hv hb hr
    rw [es, bS]
    simp only
    rw [a3, Nat.sub_zero]
    have hD : ∀ j, j < n → ∀ k, k < m → ∃ pts f at_, reconstruct_points (wd all n j k) = some pts ∧ reedsolomon_Decode net.zw.S.P pts net.zw.S.T net.zw.S.T = some (f, at_, 0) ∧ Lt net.zw.S.P f ∧ f.length ≤ t + 1 ∧ (∀ i, o net.zw.S.P (f.getD i 0) = o net.zw.S.P ((f0 k).getD i 0)) ∧
      at_ = ((List.range n).filter fun i => decide (evl (P net.zw.S.P (f0 k)) (o net.zw.S.P (i + 1)) ≠ o net.zw.S.P (((all.getD i []).getD j []).getD k 0))).map fun i => ((i : Nat) : Int) := fun j hj k hk =>
      heard_ok s a1 hj (hf k hk) (fun i hi hc => by rw [a2 i hi hc j hj]; exact hh i hi hc k hk)
    obtain ⟨⟨vals, caught⟩, e, b1, b2, b3, b4, _, _⟩ := rgS_inv (body := fun k1 (st : (List (List Nat)) × (List (List Int))) => reconstruct_Values_L0 net.zw (heard, net.zround + 1, views) k1 st.1 st.2) (rem := n) (k := 0) (s := (List.replicate n [], List.replicate n []))
      (fun j st => st.1.length = n ∧ st.2.length = n ∧ (∀ i, i < j → (st.1.getD i []).length = m ∧ ∀ k, k < m → (st.1.getD i []).getD k 0 < net.zw.S.P ∧ o net.zw.S.P ((st.1.getD i []).getD k 0) = o net.zw.S.P ((f0 k).getD 0 0)) ∧ (∀ i, i < j → st.2.getD i [] = (liars net.zw.S.P f0 all n m i).map fun i => ((i : Nat) : Int) + 1) ∧ (∀ i, j ≤ i → st.1.getD i [] = []) ∧ ∀ i, j ≤ i → st.2.getD i [] = [])
      ⟨by simp, by simp, fun i hi => by omega, fun i hi => by omega, fun i _ => by by_cases g : i < n <;> simp [List.getD_eq_getElem?_getD, g], fun i _ => by by_cases g : i < n <;> simp [List.getD_eq_getElem?_getD, g]⟩ (fun j st _ hj ⟨b1, b2, b3, b4, b5, b6⟩ => by
        have hjn : j < n := by omega
        obtain ⟨c1, c2⟩ := a4 j hjn
        unfold reconstruct_Values_L0
        simp only
        rw [ix [] (by omega), bS, c1, Nat.sub_zero]
        obtain ⟨⟨l9, l10⟩, e9, d1, d2, d3, d4, d5⟩ := rgS_inv (body := fun k2 (st' : (List (List Nat)) × (List (Int × Unit))) => reconstruct_Values_L1 net.zw j (heard.getD j []) k2 st'.1 st'.2) (rem := m) (k := 0) (s := (st.1, ([] : List (Int × Unit))))
          (fun k q => q.1.length = n ∧ (q.1.getD j []).length = k ∧ (∀ i, i < k → (q.1.getD j []).getD i 0 < net.zw.S.P ∧ o net.zw.S.P ((q.1.getD j []).getD i 0) = o net.zw.S.P ((f0 i).getD 0 0)) ∧ (∀ i, i ≠ j → q.1.getD i [] = st.1.getD i []) ∧ ∀ i, i < n → (mgetO q.2 (((i : Nat) : Int) + 1)).isSome = (List.range k).any fun k => decide (evl (P net.zw.S.P (f0 k)) (o net.zw.S.P (i + 1)) ≠ o net.zw.S.P (((all.getD i []).getD j []).getD k 0)))
          ⟨b1, by rw [b5 j (Nat.le_refl j)]; rfl, fun i hi => by omega, fun _ _ => rfl, fun i _ => by simp [mgetO]⟩ (fun k q _ hk ⟨d1, d2, d3, d4, d5⟩ => by
            have hkm : k < m := by omega
            obtain ⟨pts, f, at_, x1, x2, x3, x4, x5, x6⟩ := hD j hjn k hkm
            unfold reconstruct_Values_L1
            rw [ix [] (by omega), bS, c2 k hkm, x1, bS, x2, bS]
            simp only
            rw [ix [] (by omega), bS, coef_ok (by omega), bS, appO_some (by rw [d2]; simp; omega) (by rw [d2]; simp; omega), bS, bS, Nat.sub_zero]
            have hatl : at_.length ≤ n := by rw [x6, List.length_map]; exact Nat.le_trans (List.length_filter_le ..) (by simp)
            have hall : ∀ y ∈ at_, 0 ≤ y ∧ y < 100 := fun y hy => by
              rw [x6] at hy
              obtain ⟨i, hi, hie⟩ := List.mem_map.1 hy
              have hi2 := (List.mem_filter.1 hi).1
              have hi3 : i < n := by simpa using hi2
              omega
            obtain ⟨l14, e14, y1⟩ := rgS_inv (body := fun k3 (st' : (List (Int × Unit))) => reconstruct_Values_L2 (f, at_, 0) k3 st') (rem := at_.length) (k := 0) (s := q.2)
              (fun a l => ∀ z : Int, (mgetO l z).isSome = ((mgetO q.2 z).isSome || ((at_.take a).any fun y => decide (y + 1 = z)))) (fun z => by simp) (fun a l _ ha hy => by
                have hal : a < at_.length := by omega
                have hab : 0 ≤ at_.getD a 0 ∧ at_.getD a 0 < 100 := by
                  have hmem : at_.getD a 0 ∈ at_ := by rw [List.getD_eq_getElem?_getD, List.getElem?_eq_getElem hal]; exact List.getElem_mem hal
                  exact hall _ hmem
                unfold reconstruct_Values_L2
                simp only
                rw [ix 0 hal, bS, addI_some (by omega) (by omega), bS]
                refine ⟨_, rfl, fun z => ?_⟩
                rw [mget_put, List.take_add_one, List.any_append, ← Bool.or_assoc, ← hy z, List.getD_eq_getElem?_getD, List.getElem?_eq_getElem hal]
                by_cases g : at_[a] + 1 = z
                · simp [g]
                · simp [g])
            rw [e14, bS]
            refine ⟨_, rfl, by show (q.1.set j _).length = n; rw [List.length_set]; exact d1, ?_, fun i hi => ?_, fun i hi => ?_, fun i hi => ?_⟩
            · show ((q.1.set j _).getD j []).length = _
              rw [getD_set (by omega), if_pos rfl, List.length_append, d2]; rfl
            · show ((q.1.set j _).getD j []).getD i 0 < _ ∧ o _ (((q.1.set j _).getD j []).getD i 0) = _
              rw [getD_set (by omega), if_pos rfl]
              by_cases g : i < k
              · rw [getD_app_l (by omega)]; exact d3 i g
              · have : i = k := by omega
                subst this
                rw [getD_app_e d2.symm]
                exact ⟨x3.get hp.pos 0, x5 0⟩
            · show (q.1.set j _).getD i [] = _
              rw [getD_set (by omega), if_neg (fun e => hi e.symm)]; exact d4 i hi
            · show (mgetO l14 _).isSome = _
              rw [y1, d5 i hi, List.range_succ, List.any_append, Nat.zero_add, List.take_length]
              congr 1
              rw [x6, List.any_map, List.any_filter]
              simp only [List.any_cons, List.any_nil, Bool.or_false]
              rw [Bool.eq_iff_iff]
              simp only [List.any_eq_true, List.mem_range, Bool.and_eq_true, Function.comp, decide_eq_true_eq]
              constructor
              · rintro ⟨i', _, h2, h3⟩
                have : i' = i := by omega
                rw [← this]; exact h2
              · intro h
                exact ⟨i, hi, h, rfl⟩)
        rw [Nat.zero_add] at d2 d3 d5
        rw [e9, bS]
        simp only at d1 d2 d3 d4 d5 ⊢
        have hmx : max 0 net.zw.S.N.toNat = n := by rw [s.N]; simp
        rw [hmx, ckN_some (by omega), bS, Nat.sub_zero]
        obtain ⟨l16, e16, u1, u2, u3⟩ := rgS_inv (body := fun k4 (st' : (List (List Int))) => reconstruct_Values_L3 j l10 k4 st') (rem := n) (k := 0) (s := st.2)
          (fun k l => l.length = n ∧ l.getD j [] = ((List.range k).filter fun i => (List.range m).any fun k => decide (evl (P net.zw.S.P (f0 k)) (o net.zw.S.P (i + 1)) ≠ o net.zw.S.P (((all.getD i []).getD j []).getD k 0))).map (fun i => ((i : Nat) : Int) + 1) ∧ ∀ i, i ≠ j → l.getD i [] = st.2.getD i []) ⟨b2, by rw [b6 j (Nat.le_refl j)]; rfl, fun _ _ => rfl⟩ (fun k l _ hk ⟨u1, u2, u3⟩ => by
            have hkn : k < n := by omega
            have hll : (l.getD j []).length ≤ k := by rw [u2, List.length_map]; exact Nat.le_trans (List.length_filter_le ..) (by simp)
            unfold reconstruct_Values_L3
            rw [addI_some (by omega) (by omega), bS, d5 k hkn, List.range_succ, List.filter_append, List.map_append, ← u2]
            cases hb : ((List.range m).any fun k' => decide (evl (P net.zw.S.P (f0 k')) (o net.zw.S.P (k + 1)) ≠ o net.zw.S.P (((all.getD k []).getD j []).getD k' 0))) with
            | true =>
              rw [cT, ix [] (by omega), bS, appO_some (by simp only [List.length_cons, List.length_nil]; omega) (by simp only [List.length_cons, List.length_nil]; omega), bS, bS]
              refine ⟨_, rfl, by rw [List.length_set]; exact u1, ?_, fun i hi => by rw [getD_set (by omega), if_neg (fun e => hi e.symm)]; exact u3 i hi⟩
              rw [getD_set (by omega), if_pos rfl]
              simp only [List.filter_cons, hb, List.filter_nil]; simp
            | false =>
              rw [cF]
              refine ⟨_, rfl, u1, ?_, u3⟩
              simp only [List.filter_cons, hb, List.filter_nil]; simp)
        rw [Nat.zero_add] at u2
        rw [e16, bS]
        refine ⟨_, rfl, d1, u1, fun i hi => ?_, fun i hi => ?_, fun i hi => ?_, fun i hi => ?_⟩
        · simp only
          by_cases g : i = j
          · subst g; exact ⟨d2, d3⟩
          · rw [d4 i g]; exact b3 i (by omega)
        · simp only
          by_cases g : i = j
          · subst g; exact u2
          · rw [u3 i g]; exact b4 i (by omega)
        · simp only; rw [d4 i (by omega)]; exact b5 i (by omega)
        · simp only; rw [u3 i (by omega)]; exact b6 i (by omega))
    rw [Nat.zero_add] at b3 b4
    simp only at b1 b2 b3 b4
    rw [e, bS]
    refine ⟨all, _, _, _, _, rfl, a1, a2, .inr rfl, b1, b2, a5, b3, b4, fun j hj => ⟨fun _ => a6 j hj, ?_⟩⟩
    rw [a6 j hj, List.length_append]
    have := evs_len (round := net.zround) (all := all) (j := j) (k := n)
    omega
end Pu
