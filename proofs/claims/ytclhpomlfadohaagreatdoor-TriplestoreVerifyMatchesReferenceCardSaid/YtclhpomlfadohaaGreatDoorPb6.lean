/- Plain laws of the network: deviations, messages, views. -/
import Derived.Test.YtclhpomlfadohaaGreatDoorPb5
set_option linter.unusedVariables false
namespace Pu
open Gw Gl Sp
instance : Inhabited T_api_Deviation := ⟨⟨0, 0, 0, 0, 0, 0, 0, 0⟩⟩
instance : Inhabited T_api_Event := ⟨⟨0, 0, []⟩⟩
/-- what a valid scenario says -/
structure Sc (w : T_api_Scenario) (n t : Nat) : Prop where
  sup : Sup w.S.P
  N : w.S.N = n
  T : w.S.T = t
  n4 : 4 ≤ n
  n13 : n ≤ 13
  t1 : 1 ≤ t
  t3 : 3 * t < n
  cl : w.Corrupt.length ≤ t
  cr : ∀ x ∈ w.Corrupt, 1 ≤ x ∧ x ≤ n
  dl : w.Deviations.length ≤ 40
  dv : ∀ x ∈ w.Deviations, 1 ≤ x.From ∧ x.From ≤ n ∧ 0 ≤ x.At ∧ 0 ≤ x.SrcIndex ∧ 0 ≤ x.Of ∧ x.Of ≤ n ∧ (x.Kind = 3 → 1 ≤ x.Of) ∧ x.K < 18446744073709551616
theorem contains_ok {l : List Int} {v : Int} : slices_Contains_Lint_int l v = some (decide (v ∈ l)) := by
  unfold slices_Contains_Lint_int slices_Index_Lint_int
  rw [Nat.sub_zero]
  obtain ⟨o, e, ho⟩ := rgO_inv (body := fun k1 (st : Unit) => slices_Index_Lint_int_L0 l v k1) (fun k _ => ∀ i, i < k → l.getD i 0 ≠ v) (fun r => 0 ≤ r ∧ v ∈ l) (rem := l.length) (k := 0) (s := ()) (fun i hi => by omega) (fun k _ _ hk h => by
    unfold slices_Index_Lint_int_L0
    have hkl : k < l.length := by omega
    rw [ix 0 hkl, bS]
    by_cases g : v = l.getD k 0
    · rw [eT g, cT]
      refine ⟨_, rfl, by omega, ?_⟩
      rw [g, List.getD_eq_getElem?_getD, List.getElem?_eq_getElem hkl]
      exact List.getElem_mem hkl
    · rw [eF g, cF]
      refine ⟨_, rfl, fun i hi => ?_⟩
      by_cases e : i = k
      · subst e; exact fun z => g z.symm
      · exact h i (by omega))
  rw [e, bS]
  cases o with
  | fin r => rw [oF, bS, dT ho.1, dT ho.2]
  | go s =>
    rw [oG, bS, dF (by omega), dF]
    intro hv
    obtain ⟨i, hi, rfl⟩ := List.getElem_of_mem hv
    apply ho i (by omega)
    rw [List.getD_eq_getElem?_getD, List.getElem?_eq_getElem hi]; rfl
theorem word_ok {l : List Nat} {i : Int} (h : l.length ≤ 1000) : ∃ x, adversary_word l i = some x ∧ ∀ p, 0 < p → Lt p l → x < p := by
  unfold adversary_word
  by_cases g : i < 0
  · rw [dT g, cT]; exact ⟨0, rfl, fun p hp _ => hp⟩
  · rw [dF g, cF]
    by_cases g2 : i < l.length
    · rw [dF (by omega), cF, idx_getD 0 (by omega) g2, bS]
      exact ⟨_, rfl, fun p hp hl => hl _ (by omega)⟩
    · rw [dT (by omega), cT]; exact ⟨0, rfl, fun p hp _ => hp⟩
theorem upon_ok {w : T_api_Scenario} {n t : Nat} (s : Sc w n t) {x : T_api_Deviation} {l said : List Nat} (hx : x ∈ w.Deviations) (hl : Lt w.S.P l) (hll : l.length ≤ 100) (hs : Lt w.S.P said) (hsl : said.length ≤ 100) :
    ∃ r, adversary_upon w x l said = some r ∧ Lt w.S.P r ∧ r.length ≤ l.length := by
  have hp := s.sup
  have hlt := hp.lt
  obtain ⟨d1, d2, d3, d4, d5, d6, d7, d8⟩ := s.dv x hx
  unfold adversary_upon
  by_cases k4 : x.Kind = 4
  · rw [eT k4, cT]; exact ⟨_, rfl, fun i hi => by simp at hi, by simp⟩
  · rw [eF k4, cF]
    by_cases ha : x.At < (l.length : Int)
    · have hk := Nat.mod_lt x.K hp.pos
      have hat : x.At.toNat < l.length := by omega
      have hla := hl _ hat
      rw [dF (by omega), cF, reduce_ok hp d8, bS, clone_ok (by omega), bS]
      by_cases k1 : x.Kind = 1
      · rw [eT k1, cT, idx_getD 0 d3 ha, bS, bS]
        exact ⟨_, rfl, Lt_set hl hk, by simp⟩
      · rw [eF k1, cF]
        by_cases k2 : x.Kind = 2
        · rw [eT k2, cT, idx_getD 0 d3 ha, bS, add_ok hp (by omega), bS, bS]
          exact ⟨_, rfl, Lt_set hl (Nat.mod_lt _ hp.pos), by simp⟩
        · rw [eF k2, cF]
          by_cases k3 : x.Kind = 3
          · rw [eT k3, cT, contains_ok, bS]
            obtain ⟨y, ey, hy⟩ := word_ok (l := said) (i := x.SrcIndex) (by omega)
            obtain ⟨z, ez, hz⟩ : ∃ z, (bif !(decide (x.Of ∈ w.Corrupt)) then adversary_word said x.SrcIndex >>= fun r5 => some r5 else some 0) = some z ∧ z < w.S.P := by
              cases decide (x.Of ∈ w.Corrupt) with
              | false => rw [nF, cT, ey, bS]; exact ⟨_, rfl, hy _ hp.pos hs⟩
              | true => rw [nT, cF]; exact ⟨_, rfl, hp.pos⟩
            have hm := Nat.mod_lt (x.K % w.S.P * z) hp.pos
            rw [ez, bS, idx_getD 0 d3 ha, bS, mul_ok hp hk hz, bS, add_ok hp (by omega), bS, bS]
            exact ⟨_, rfl, Lt_set hl (Nat.mod_lt _ hp.pos), by simp⟩
          · rw [eF k3, cF]; exact ⟨_, rfl, hl, Nat.le_refl _⟩
    · rw [dT (by omega), cT]; exact ⟨_, rfl, hl, Nat.le_refl _⟩
/-- messages between n parties: at most L words each, below p -/
structure Sq (p n L : Nat) (m : List (List (List Nat))) : Prop where
  len : m.length = n
  row : ∀ i, i < n → (m.getD i []).length = n
  w : ∀ i, i < n → ∀ j, j < n → Lt p ((m.getD i []).getD j []) ∧ ((m.getD i []).getD j []).length ≤ L
theorem Sq.s1 {p n L i : Nat} {m : List (List (List Nat))} (s : Sq p n L m) (hi : i < n) : m[i]? = some (m.getD i []) := ix [] (by rw [s.len]; exact hi)
theorem Sq.s2 {p n L i j : Nat} {m : List (List (List Nat))} (s : Sq p n L m) (hi : i < n) (hj : j < n) : (m.getD i [])[j]? = some ((m.getD i []).getD j []) := ix [] (by rw [s.row i hi]; exact hj)
theorem Sq.setW {p n L i j : Nat} {m : List (List (List Nat))} {r : List Nat} (s : Sq p n L m) (hi : i < n) (hj : j < n) (hr : Lt p r ∧ r.length ≤ L) : Sq p n L (m.set i ((m.getD i []).set j r)) := by
  have hil : i < m.length := by rw [s.len]; exact hi
  refine ⟨by rw [List.length_set]; exact s.len, fun k hk => ?_, fun k hk q hq => ?_⟩
  · rw [getD_set hil]; split
    · rw [List.length_set]; exact s.row i hi
    · exact s.row k hk
  · rw [getD_set hil]; split
    · rw [getD_set (by rw [s.row i hi]; exact hj)]; split
      · exact hr
      · exact s.w i hi q hq
    · exact s.w k hk q hq
/-- the deviations of a round -/
theorem apply_ok {w : T_api_Scenario} {n t L : Nat} (s : Sc w n t) {out : List (List (List Nat))} {round : Int} (ho : Sq w.S.P n L out) (hL : L ≤ 100) :
    ∃ all, adversary_ApplyToMessages w round out = some all ∧ (Sq w.S.P n L all ∧ ∀ i, i < n → ∀ j, j < n → ((all.getD i []).getD j []).length ≤ ((out.getD i []).getD j []).length) ∧ ∀ i, i < n → (((i : Nat) : Int) + 1) ∉ w.Corrupt → all.getD i [] = out.getD i [] := by
  have h13 := s.n13
  unfold adversary_ApplyToMessages
  rw [ho.len, mkO_some (by omega) (by omega) (by omega) (by omega), bS, Nat.sub_zero, Int.toNat_natCast]
  obtain ⟨l3, e3, h1, h2⟩ := rgS_inv (body := fun k1 (st : (List (List (List Nat)))) => adversary_ApplyToMessages_L0 out k1 st) (rem := n) (k := 0) (s := List.replicate n [])
    (fun k l => l.length = n ∧ ∀ i, i < k → l.getD i [] = out.getD i []) ⟨by simp, fun i hi => by omega⟩ (fun k l _ hk ⟨h1, h2⟩ => by
      have hk' : k < n := by omega
      unfold adversary_ApplyToMessages_L0
      rw [ho.s1 hk', bS, clones_ok (by rw [ho.row k hk']; omega), bS, ix [] (by omega), bS, bS]
      refine ⟨_, rfl, by rw [List.length_set]; exact h1, fun i hi => ?_⟩
      rw [getD_set (by omega)]
      by_cases g : k = i
      · rw [if_pos g, g]
      · rw [if_neg g]; exact h2 i (by omega))
  have hl3 : l3 = out := by
    apply List.ext_getElem?
    intro i
    by_cases g : i < n
    · rw [ix [] (by omega), ix [] (by rw [ho.len]; omega), h2 i (by omega)]
    · rw [List.getElem?_eq_none (by omega), List.getElem?_eq_none (by rw [ho.len]; omega)]
  subst hl3
  rw [e3, bS, Nat.sub_zero]
  obtain ⟨all, e, k1, k2⟩ := rgS_inv (body := fun k2 (st : (List (List (List Nat)))) => adversary_ApplyToMessages_L1 w round l3 k2 st) (rem := w.Deviations.length) (k := 0) (s := l3)
    (fun _ all => (Sq w.S.P n L all ∧ ∀ i, i < n → ∀ j, j < n → ((all.getD i []).getD j []).length ≤ ((l3.getD i []).getD j []).length) ∧ ∀ i, i < n → (((i : Nat) : Int) + 1) ∉ w.Corrupt → all.getD i [] = l3.getD i []) ⟨⟨ho, fun _ _ _ _ => Nat.le_refl _⟩, fun _ _ _ => rfl⟩ (fun k all _ hk ⟨⟨k1, kl⟩, k2⟩ => by
      have hkd : k < w.Deviations.length := by omega
      unfold adversary_ApplyToMessages_L1
      rw [ix default hkd, bS]
      have hx : w.Deviations.getD k default ∈ w.Deviations := by
        rw [List.getD_eq_getElem?_getD, List.getElem?_eq_getElem hkd]; exact List.getElem_mem hkd
      generalize w.Deviations.getD k default = x at hx
      obtain ⟨d1, d2, d3, d4, d5, d6, d7, d8⟩ := s.dv x hx
      unfold adversary_done
      by_cases g : x.Round = round ∧ x.From ∈ w.Corrupt
      · rw [eT g.1, cT, contains_ok, bS, bS, dT g.2, nT, cF]
        have hf : x.From.toNat - 1 < n := by omega
        have hfe : (x.From - 1).toNat = x.From.toNat - 1 := by omega
        obtain ⟨said, es, hs1, hs2⟩ : ∃ said, (bif x.Kind == (3 : Int) then
            subI x.Of (1 : Int) >>= fun x6 => idx l3 x6 >>= fun x7 => subI x.From (1 : Int) >>= fun x8 => idx x7 x8 >>= fun x9 => some x9
          else some ([] : List Nat)) = some said ∧ Lt w.S.P said ∧ said.length ≤ 100 := by
          by_cases k3 : x.Kind = 3
          · have h7 := d7 k3
            have hoe : (x.Of - 1).toNat < n := by omega
            rw [eT k3, cT, subI_some (by omega) (by omega), bS, idx_getD [] (by omega) (by rw [ho.len]; omega), bS, subI_some (by omega) (by omega), bS, idx_getD [] (by omega) (by rw [ho.row _ hoe]; omega), bS]
            have := ho.w _ hoe (x.From - 1).toNat (by omega)
            exact ⟨_, rfl, this.1, by omega⟩
          · rw [eF k3, cF]; exact ⟨_, rfl, fun i hi => by simp at hi, by simp⟩
        rw [es, bS, subI_some (by omega) (by omega), bS, idx_getD [] (by omega) (by rw [k1.len]; omega), bS, hfe, k1.row _ hf, ckN_some (by omega), bS, Nat.sub_zero]
        obtain ⟨all', e', q1, q2⟩ := rgS_inv (body := fun k3 (st : (List (List (List Nat)))) => adversary_ApplyToMessages_L2 w x said (x.From - 1) k3 st) (rem := n) (k := 0) (s := all)
          (fun _ a => (Sq w.S.P n L a ∧ ∀ i, i < n → ∀ j, j < n → ((a.getD i []).getD j []).length ≤ ((l3.getD i []).getD j []).length) ∧ ∀ i, i < n → i ≠ x.From.toNat - 1 → a.getD i [] = all.getD i []) ⟨⟨k1, kl⟩, fun _ _ _ => rfl⟩ (fun j a _ hj ⟨⟨q1, ql⟩, q2⟩ => by
            have hjn : j < n := by omega
            unfold adversary_ApplyToMessages_L2
            rw [addI_some (by omega) (by omega), bS]
            have : ∃ b, (bif (((j : Nat) : Int) + 1) != x.From then bif x.To == (0 : Int) then some true else some (x.To == (((j : Nat) : Int) + 1)) else some false) = some b := by
              by_cases g1 : ((j : Nat) : Int) + 1 = x.From
              · rw [qF g1, cF]; exact ⟨_, rfl⟩
              · rw [qT g1, cT]
                by_cases g2 : x.To = 0
                · rw [eT g2, cT]; exact ⟨_, rfl⟩
                · rw [eF g2, cF]; exact ⟨_, rfl⟩
            obtain ⟨b, eb⟩ := this
            rw [eb, bS]
            cases b with
            | false => rw [cF]; exact ⟨_, rfl, ⟨q1, ql⟩, q2⟩
            | true =>
              rw [cT, idx_getD [] (by omega) (by rw [q1.len]; omega), bS, hfe, q1.s2 hf hjn, bS]
              obtain ⟨hw1, hw2⟩ := q1.w _ hf j hjn
              obtain ⟨r, er, r1, r2⟩ := upon_ok s hx hw1 (by omega) hs1 hs2
              rw [er, bS, bS, bS]
              have hql := ql _ hf j hjn
              refine ⟨_, rfl, ⟨q1.setW hf hjn ⟨r1, by omega⟩, fun i hi j' hj' => ?_⟩, fun i hi hne => ?_⟩
              · rw [getD_set (by rw [q1.len]; exact hf)]
                by_cases g : x.From.toNat - 1 = i
                · rw [if_pos g, getD_set (by rw [q1.row _ hf]; exact hjn), ← g]
                  by_cases g' : j = j'
                  · rw [if_pos g', ← g']; omega
                  · rw [if_neg g']; exact ql _ hf j' hj'
                · rw [if_neg g]; exact ql i hi j' hj'
              rw [getD_set (by rw [q1.len]; exact hf), if_neg (fun e => hne e.symm)]; exact q2 i hi hne)
        rw [e', bS]
        refine ⟨_, rfl, q1, fun i hi hc => ?_⟩
        rw [q2 i hi (fun e => hc (by rw [e]; have : ((x.From.toNat - 1 : Nat) : Int) + 1 = x.From := by omega
                                     rw [this]; exact g.2))]
        exact k2 i hi hc
      · have : (bif x.Round == round then slices_Contains_Lint_int w.Corrupt x.From >>= fun r1 => some r1 else some false) = some false := by
          by_cases g1 : x.Round = round
          · rw [eT g1, cT, contains_ok, bS, dF (fun h => g ⟨g1, h⟩)]
          · rw [eF g1, cF]
        rw [this, bS, nF, cT]
        exact ⟨_, rfl, ⟨k1, kl⟩, k2⟩)
  rw [e, bS]
  exact ⟨_, rfl, k1, k2⟩
/-- what a party receives in a round, as its view has it -/
def evs (round : Int) (all : List (List (List Nat))) (j k : Nat) : List T_api_Event :=
  ((List.range k).filter fun i => decide (i ≠ j ∧ 0 < ((all.getD i []).getD j []).length)).map fun i => ⟨round, ((i : Nat) : Int) + 1, (all.getD i []).getD j []⟩
theorem evs_len {round : Int} {all : List (List (List Nat))} {j k : Nat} : (evs round all j k).length ≤ k := by
  unfold evs; rw [List.length_map]; exact Nat.le_trans (List.length_filter_le ..) (by simp)
theorem evs_succ {round : Int} {all : List (List (List Nat))} {j k : Nat} : evs round all j (k + 1) = evs round all j k ++ if k ≠ j ∧ 0 < ((all.getD k []).getD j []).length then [⟨round, ((k : Nat) : Int) + 1, (all.getD k []).getD j []⟩] else [] := by
  unfold evs
  rw [List.range_succ, List.filter_append, List.map_append]
  congr 1
  by_cases g : k ≠ j ∧ 0 < ((all.getD k []).getD j []).length
  · rw [if_pos g]; simp only [List.filter_cons, decide_eq_true g, List.filter_nil]; simp
  · rw [if_neg g]; simp only [List.filter_cons, decide_eq_false g, List.filter_nil]; simp
theorem note_ok {net : T_network_Net} {j k : Nat} {l : List Nat} (hv : j < net.zviews.length) (hl : l.length ≤ 100) (hb : (net.zviews.getD j []).length ≤ 1000) (hk : k ≤ 100) :
    network_Net_note net ((j : Nat) : Int) ((k : Nat) : Int) l = some (if k ≠ j ∧ 0 < l.length then net.zviews.set j (net.zviews.getD j [] ++ [⟨net.zround, ((k : Nat) : Int) + 1, l⟩]) else net.zviews) := by
  unfold network_Net_note
  by_cases g : j = k
  · rw [qF (by omega), cF, bS, cF, if_neg (by omega)]
  · rw [qT (by omega), cT]
    by_cases g2 : 0 < l.length
    · rw [dT (by omega), bS, cT, idx_getD [] (by omega) (by omega), bS, addI_some (by omega) (by omega), bS, appO_some (by simp; omega) (by simp; omega), bS, List.nil_append]
      simp only [Int.toNat_natCast]
      rw [appO_some (by simp only [List.length_cons, List.length_nil]; omega) (by simp only [List.length_cons, List.length_nil]; omega), bS, bS, if_pos ⟨fun e => g e.symm, g2⟩]
    · rw [dF (by omega), bS, cF, if_neg (fun h => g2 h.2)]
/-- a round -/
theorem send_ok {net : T_network_Net} {n t L : Nat} (s : Sc net.zw n t) {out : List (List (List Nat))} (ho : Sq net.zw.S.P n L out) (hL : L ≤ 100) (hv : net.zviews.length = n) (hb : ∀ j, j < n → (net.zviews.getD j []).length ≤ 500) (hr : 0 ≤ net.zround ∧ net.zround ≤ 1000) :
    ∃ all inn views, adversary_ApplyToMessages net.zw net.zround out = some all ∧ network_Net_Send net out = some (inn, net.zround + 1, views) ∧ (Sq net.zw.S.P n L all ∧ ∀ i, i < n → ∀ j, j < n → ((all.getD i []).getD j []).length ≤ ((out.getD i []).getD j []).length) ∧ (∀ i, i < n → (((i : Nat) : Int) + 1) ∉ net.zw.Corrupt → all.getD i [] = out.getD i []) ∧
      inn.length = n ∧ (∀ j, j < n → (inn.getD j []).length = n ∧ ∀ i, i < n → (inn.getD j []).getD i [] = (all.getD i []).getD j []) ∧ views.length = n ∧ ∀ j, j < n → views.getD j [] = net.zviews.getD j [] ++ evs net.zround all j n := by
  have h13 := s.n13
  obtain ⟨all, ea, ⟨q1, ql⟩, q2⟩ := apply_ok (round := net.zround) s ho hL
  unfold network_Net_Send
  rw [ea, bS, s.N, mkO_some (by omega) (by omega) (by omega) (by omega), bS, Int.toNat_natCast, List.length_replicate, Nat.sub_zero]
  obtain ⟨⟨views, inn⟩, e, h1, h2, h3, h4, h5, h6⟩ := rgS_inv (body := fun k1 (st : (List (List T_api_Event)) × (List (List (List Nat)))) => network_Net_Send_L0 net all k1 st.1 st.2) (rem := n) (k := 0) (s := (net.zviews, List.replicate n []))
    (fun k st => st.1.length = n ∧ st.2.length = n ∧ (∀ j, j < k → st.1.getD j [] = net.zviews.getD j [] ++ evs net.zround all j n) ∧ (∀ j, k ≤ j → st.1.getD j [] = net.zviews.getD j []) ∧ (∀ j, j < k → (st.2.getD j []).length = n ∧ ∀ i, i < n → (st.2.getD j []).getD i [] = (all.getD i []).getD j []) ∧ (∀ j, k ≤ j → st.2.getD j [] = []))
    ⟨hv, by simp, fun j hj => by omega, fun _ _ => rfl, fun j hj => by omega, fun j _ => by by_cases g : j < n <;> simp [List.getD_eq_getElem?_getD, g]⟩ (fun j st _ hj ⟨h1, h2, h3, h4, h5, h6⟩ => by
      have hjn : j < n := by omega
      unfold network_Net_Send_L0
      have hmx : max 0 net.zw.S.N.toNat = n := by rw [s.N]; simp
      rw [hmx, ckN_some (by omega), bS, Nat.sub_zero]
      obtain ⟨⟨v', i'⟩, e', g1, g2, g3, g4, g5, g6, g7⟩ := rgS_inv (body := fun k2 (st : (List (List T_api_Event)) × (List (List (List Nat)))) => network_Net_Send_L1 net all j k2 st.1 st.2) (rem := n) (k := 0) (s := (st.1, st.2))
        (fun k q => q.1.length = n ∧ q.2.length = n ∧ q.1.getD j [] = net.zviews.getD j [] ++ evs net.zround all j k ∧ (∀ i, i ≠ j → q.1.getD i [] = st.1.getD i []) ∧ (q.2.getD j []).length = k ∧ (∀ i, i < k → (q.2.getD j []).getD i [] = (all.getD i []).getD j []) ∧ (∀ i, i ≠ j → q.2.getD i [] = st.2.getD i []))
        ⟨h1, h2, by rw [h4 j (Nat.le_refl j)]; simp [evs], fun _ _ => rfl, by rw [h6 j (Nat.le_refl j)]; rfl, fun i hi => by omega, fun _ _ => rfl⟩ (fun k q _ hk ⟨g1, g2, g3, g4, g5, g6, g7⟩ => by
          have hkn : k < n := by omega
          obtain ⟨w1, w2⟩ := q1.w k hkn j hjn
          have hel := evs_len (round := net.zround) (all := all) (j := j) (k := k)
          have hbj := hb j hjn
          have hq1 : (q.1.getD j []).length ≤ 600 := by rw [g3, List.length_append]; omega
          unfold network_Net_Send_L1
          rw [q1.s1 hkn, bS, q1.s2 hkn hjn, bS, appO_some (by simp only [List.length_nil]; omega) (by simp only [List.length_nil]; omega), bS, List.nil_append, ix [] (by omega), bS, appO_some (by rw [g5]; simp; omega) (by rw [g5]; simp; omega), bS, bS, note_ok (net := ⟨net.zw, net.zround, q.1, net.ztapes⟩) (by show j < q.1.length; omega) (by omega) (by show (q.1.getD j []).length ≤ 1000; omega) (by omega), bS]
          refine ⟨_, rfl, ?_, by show (q.2.set j _).length = n; rw [List.length_set]; exact g2, ?_, fun i hi => ?_, ?_, fun i hi => ?_, fun i hi => ?_⟩
          · show (if _ then q.1.set j _ else q.1).length = n
            split
            · rw [List.length_set]; exact g1
            · exact g1
          · show (if _ then q.1.set j _ else q.1).getD j [] = _
            rw [evs_succ]
            split
            · rw [getD_set (by omega), if_pos rfl, g3, List.append_assoc]
            · rw [List.append_nil]; exact g3
          · show (if _ then q.1.set j _ else q.1).getD i [] = _
            split
            · rw [getD_set (by omega), if_neg (fun e => hi e.symm)]; exact g4 i hi
            · exact g4 i hi
          · show ((q.2.set j _).getD j []).length = _
            rw [getD_set (by omega), if_pos rfl, List.length_append, g5]; rfl
          · show ((q.2.set j _).getD j []).getD i [] = _
            rw [getD_set (by omega), if_pos rfl]
            by_cases g : i < k
            · rw [getD_app_l (by omega)]; exact g6 i g
            · have : i = k := by omega
              subst this
              exact getD_app_e g5.symm
          · show (q.2.set j _).getD i [] = _
            rw [getD_set (by omega), if_neg (fun e => hi e.symm)]; exact g7 i hi)
      rw [Nat.zero_add] at g3 g5 g6
      simp only at g1 g2 g3 g4 g5 g6 g7
      rw [e', bS]
      refine ⟨_, rfl, g1, g2, fun i hi => ?_, fun i hi => ?_, fun i hi => ?_, fun i hi => ?_⟩
      · by_cases g : i = j
        · subst g; exact g3
        · show v'.getD i [] = _; rw [g4 i g]; exact h3 i (by omega)
      · show v'.getD i [] = _; rw [g4 i (by omega)]; exact h4 i (by omega)
      · by_cases g : i = j
        · subst g; exact ⟨g5, g6⟩
        · show (i'.getD i []).length = n ∧ _
          simp only
          rw [g7 i g]; exact h5 i (by omega)
      · show i'.getD i [] = _; rw [g7 i (by omega)]; exact h6 i (by omega))
  rw [Nat.zero_add] at h3 h5
  simp only at h1 h2 h3 h5
  rw [e, bS]
  simp only
  rw [addI_some (by omega) (by omega), bS]
  exact ⟨_, _, _, rfl, rfl, ⟨q1, ql⟩, q2, h2, h5, h1, h3⟩
theorem resize_ok {l : List Nat} {m : Nat} (hm : m ≤ 1000) : ∃ r, network_Resize l ((m : Nat) : Int) = some r ∧ r.length = m ∧ ∀ k, k < m → r.getD k 0 = l.getD k 0 := by
  unfold network_Resize
  rw [mkO_some (by omega) (by omega) (by omega) (by omega), bS, Int.toNat_natCast]
  refine ⟨_, rfl, by unfold copyL; simp; omega, fun k hk => ?_⟩
  unfold copyL
  rw [List.length_replicate]
  by_cases g : k < l.length
  · rw [getD_app_l (by simp; omega), List.getD_eq_getElem?_getD, List.getElem?_take, if_pos (by omega), ← List.getD_eq_getElem?_getD]
  · rw [getD_ge (l := l) (by omega), List.getD_eq_getElem?_getD, List.getElem?_append_right (by simp; omega), List.getElem?_drop]
    have : (min l.length m + (k - (l.take (min l.length m)).length)) < m := by simp; omega
    rw [List.getElem?_replicate, if_pos this]; rfl
end Pu
