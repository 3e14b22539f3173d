/- Plain laws of decoding: exactly what comes out. -/
import Derived.Test.YtclhpomlfadohaaGreatDoorPb5
set_option linter.unusedVariables false
namespace Pu
open Gw Gl Sp Lean.Grind
section
variable {p : Nat} [NeZero p]
/-- decoding: the polynomial that at most w words contradict, or nothing where there is none -/
theorem decode_full (hp : Sup p) {pts : List T_api_Point} {deg w : Nat} (hP : Pts p pts) (hn : deg + 1 + 2 * w ≤ pts.length) (hl : pts.length ≤ 13) :
    ∃ f at_ e, reedsolomon_Decode p pts ((deg : Nat) : Int) ((w : Nat) : Int) = some (f, at_, e) ∧ Lt p f ∧ f.length ≤ deg + 1 ∧
      ((e = 0 ∧ at_ = (wrongs p pts f).map (fun i => ((i : Nat) : Int)) ∧ (wrongs p pts f).length ≤ w) ∨ (e ≠ 0 ∧ f = [] ∧ at_ = [] ∧ ∀ f0 : List Nat, f0.length ≤ deg + 1 → ¬ (wrongs p pts f0).length ≤ w)) := by
  have hlt := hp.lt
  unfold reedsolomon_Decode
  rw [may_ok hP hn (by omega), bS, nT, cF]
  have key : ∀ f0 : List Nat, (wrongs p pts f0).length ≤ w → ∀ i, i < pts.length → (o p (pts.getD i default).X ∈ (wrongs p pts f0).map (fun i => o p (pts.getD i default).X) ∨ o p (pts.getD i default).Y = evl (P p f0) (o p (pts.getD i default).X)) := fun f0 _ i hi => by
    by_cases g : evl (P p f0) (o p (pts.getD i default).X) = o p (pts.getD i default).Y
    · exact .inr g.symm
    · left
      refine List.mem_map.2 ⟨i, List.mem_filter.2 ⟨by simpa using hi, decide_eq_true g⟩, rfl⟩
  rcases try_ok (deg := deg) (w := w) hp hP (by omega) (by omega) (by omega) with ⟨q, e, et, q1, q2, e1, e2, e3, heq⟩ | ⟨et, hno⟩
  · rw [et, bS]
    simp only [nT, cF]
    obtain ⟨f, r, ed, f1, r1, r2, f2, f3, r3, hd⟩ := divmod_ok hp q2 e2 e1 e3 (by omega) (by omega)
    rw [ed, bS]
    simp only
    -- what a right polynomial makes of it
    have good : ∀ f0 : List Nat, f0.length ≤ deg + 1 → (wrongs p pts f0).length ≤ w → (∀ i, cf (P p f) i = cf (P p f0) i) ∧ ∀ i, cf (P p r) i = 0 := fun f0 g1 g2 => by
      let ok := (List.range pts.length).filter fun i => !decide (evl (P p f0) (o p (pts.getD i default).X) ≠ o p (pts.getD i default).Y)
      have hcount : ok.length + (wrongs p pts f0).length = pts.length := by
        have := filter_len (List.range pts.length) (fun i => decide (evl (P p f0) (o p (pts.getD i default).X) ≠ o p (pts.getD i default).Y))
        rw [List.length_range] at this
        show (List.filter _ _).length + (List.filter _ _).length = _
        omega
      refine bw (good := ok.map fun i => o p (pts.getD i default).X) (all := (List.range 31).map (o p)) (deg := deg) (w := w) (q := P p q) (e := P p e) hp.nz ?_ ?_ (by rw [P_len]; omega) (by rw [P_len]; exact g1) (by rw [P_cf, e3, o_one]) (by rw [P_len]; exact e1) (by rw [P_len]; exact r2) (by rw [List.length_map]; omega) (by simp; omega) (by rw [P_len]; simp; omega) (by simp; omega) ?_ hd
      · exact nodup_X hp hP ok (List.Pairwise.filter _ List.nodup_range) (fun i hi => by have := (List.mem_filter.1 hi).1; simpa using this)
      · rw [List.Nodup, List.pairwise_map]
        refine List.Pairwise.imp_of_mem ?_ List.nodup_range
        intro a b ha hb hne e
        simp only [List.mem_range] at ha hb
        exact hne (o_inj (by omega) (by omega) e)
      · intro x hx
        obtain ⟨i, hi, rfl⟩ := List.mem_map.1 hx
        have hi' := List.mem_filter.1 hi
        have hil : i < pts.length := by simpa using hi'.1
        have h3 : evl (P p f0) (o p (pts.getD i default).X) = o p (pts.getD i default).Y := by simpa using hi'.2
        rw [heq i hil, h3]
    have good2 : ∀ f0 : List Nat, f0.length ≤ deg + 1 → (wrongs p pts f0).length ≤ w → r = [] ∧ (∀ i, deg + 1 ≤ i → f.getD i 0 = 0) ∧ wrongs p pts f = wrongs p pts f0 := fun f0 g1 g2 => by
      obtain ⟨k1, k2⟩ := good f0 g1 g2
      refine ⟨?_, fun i hi => ?_, ?_⟩
      · rcases r3 with r3 | r3
        · exact r3
        · exfalso
          have := k2 (r.length - 1)
          rw [P_cf, o_eq0, Nat.mod_eq_of_lt (r1.get hp.pos _)] at this
          exact r3 this
      · have := k1 i
        rw [P_cf, P_cf, getD_ge (l := f0) (by omega), o_zero, o_eq0, Nat.mod_eq_of_lt (f1.get hp.pos _)] at this
        exact this
      · unfold wrongs
        congr 1
        funext i
        rw [evl_congr k1]
    obtain ⟨k, dk1, dk2, dk3, dk4⟩ := degree_ok (f := f) (by omega)
    by_cases c1 : r.length > 0
    · rw [dT (by omega), cT, bS, cT]
      exact ⟨_, _, _, rfl, fun i hi => by simp at hi, by simp, .inr ⟨by decide, rfl, rfl, fun f0 g1 g2 => by have := (good2 f0 g1 g2).1; rw [this] at c1; simp at c1⟩⟩
    · rw [dF (by omega), cF, dk2, bS]
      by_cases c2 : deg + 1 < k
      · rw [dT (by omega), bS, cT]
        exact ⟨_, _, _, rfl, fun i hi => by simp at hi, by simp, .inr ⟨by decide, rfl, rfl, fun f0 g1 g2 => by
          have := (good2 f0 g1 g2).2.1 (k - 1) (by omega)
          rcases dk4 with z | z
          · omega
          · exact absurd this z⟩⟩
      · rw [dF (by omega), bS, cF, errors_ok hp hP f1 (by omega) (by omega), bS, List.length_map]
        have hfl : f.length ≤ deg + 1 := by
          rcases f3 with z | z
          · rw [z]; simp
          · apply Classical.byContradiction
            intro g
            exact z (dk3 _ (by omega))
        by_cases c3 : (wrongs p pts f).length ≤ w
        · rw [dF (by omega), cF]
          exact ⟨_, _, _, rfl, f1, hfl, .inl ⟨rfl, rfl, c3⟩⟩
        · rw [dT (by omega), cT]
          exact ⟨_, _, _, rfl, fun i hi => by simp at hi, by simp, .inr ⟨by decide, rfl, rfl, fun f0 g1 g2 => by
            have := (good2 f0 g1 g2).2.2
            rw [this] at c3; omega⟩⟩
  · rw [et, bS]
    simp only [nF, cT]
    exact ⟨_, _, _, rfl, fun i hi => by simp at hi, by simp, .inr ⟨by decide, rfl, rfl, fun f0 g1 g2 => absurd (key f0 g2) (hno _ _ (by rw [P_len]; exact g1) (by rw [List.length_map]; exact g2))⟩⟩
theorem wrongs_uniq (hp : Sup p) {pts : List T_api_Point} {deg w : Nat} (hP : Pts p pts) (hn : deg + 1 + 2 * w ≤ pts.length) {f g : List Nat} (hf : f.length ≤ deg + 1) (hg : g.length ≤ deg + 1) (wf : (wrongs p pts f).length ≤ w) (wg : (wrongs p pts g).length ≤ w) (i : Nat) : o p (f.getD i 0) = o p (g.getD i 0) := by
  let bad := fun (f : List Nat) (i : Nat) => decide (evl (P p f) (o p (pts.getD i default).X) ≠ o p (pts.getD i default).Y)
  let ok := ((List.range pts.length).filter fun i => !bad f i).filter fun i => !bad g i
  have c1 := filter_len (List.range pts.length) (bad f)
  have c2 := filter_len ((List.range pts.length).filter fun i => !bad f i) (bad g)
  have c3 : (((List.range pts.length).filter fun i => !bad f i).filter (bad g)).length ≤ ((List.range pts.length).filter (bad g)).length := (List.Sublist.filter _ List.filter_sublist).length_le
  have c4 : ((List.range pts.length).filter (bad f)).length ≤ w := wf
  have c5 : ((List.range pts.length).filter (bad g)).length ≤ w := wg
  have hok : deg + 1 ≤ ok.length := by
    show deg + 1 ≤ (List.filter _ _).length
    rw [List.length_range] at c1
    omega
  have hin : ∀ i ∈ ok, i < pts.length ∧ bad f i = false ∧ bad g i = false := fun i hi => by
    have h1 := List.mem_filter.1 hi
    have h2 := List.mem_filter.1 h1.1
    exact ⟨by simpa using h2.1, by simpa using h2.2, by simpa using h1.2⟩
  have := eq_of_evl (R := Fin p) hp.nz (f := P p f) (g := P p g) (xs := ok.map fun i => o p (pts.getD i default).X) (nodup_X hp hP ok (List.Pairwise.filter _ (List.Pairwise.filter _ List.nodup_range)) (fun i hi => (hin i hi).1)) (by rw [P_len, List.length_map]; omega) (by rw [P_len, List.length_map]; omega) (fun x hx => by
    obtain ⟨i, hi, rfl⟩ := List.mem_map.1 hx
    obtain ⟨_, h2, h3⟩ := hin i hi
    have e2 : evl (P p f) (o p (pts.getD i default).X) = o p (pts.getD i default).Y := by simpa [bad] using h2
    have e3 : evl (P p g) (o p (pts.getD i default).X) = o p (pts.getD i default).Y := by simpa [bad] using h3
    rw [e2, e3]) i
  rw [P_cf, P_cf] at this
  exact this
end
end Pu
