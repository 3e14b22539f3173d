/- Plain laws of chapter 25: soundness of verifying, scaled triples. -/
import Derived.Test.YtclhpomlfadohaaDoorRf2
set_option linter.unusedVariables false
namespace Pu
open Gw Gl Sp Lean.Grind
theorem law_IsSound (q : T_privitylaw25_Ask) (hK : ∀ x ∈ q.W.Deviations, x.K < 18446744073709551616) : privitylaw25_TriplestoreVerifyIsSound q = some true := by
  unfold privitylaw25_TriplestoreVerifyIsSound
  obtain ⟨b, e, hb⟩ := fair25_ok hK
  rw [aw25, bS, nT, cF, e, bS]
  cases b with
  | false => rw [nF, cT]
  | true =>
    obtain ⟨n, t, v, h7⟩ := hb rfl
    have s := v.toSc
    have hp := s.sup
    haveI : NeZero q.W.S.P := hp.ne
    have hlt := hp.lt
    have h13 := s.n13
    have h3 := s.t3
    have a0 := h7 0 (by omega)
    have a1 := h7 1 (by omega)
    have a2 := h7 2 (by omega)
    have b0 := h7 3 (by omega)
    have b1 := h7 4 (by omega)
    have b2 := h7 5 (by omega)
    have r0 := h7 6 (by omega)
    change q.A.e0.length = _ ∧ Lt _ q.A.e0 at a0
    change q.A.e1.length = _ ∧ Lt _ q.A.e1 at a1
    change q.A.e2.length = _ ∧ Lt _ q.A.e2 at a2
    change q.B.e0.length = _ ∧ Lt _ q.B.e0 at b0
    change q.B.e1.length = _ ∧ Lt _ q.B.e1 at b1
    change q.B.e2.length = _ ∧ Lt _ q.B.e2 at b2
    change q.R.length = _ ∧ Lt _ q.R at r0
    have lt := fun {l : List Nat} (h : l.length = t + 1 ∧ Lt q.W.S.P l) => h.2 0 (by omega)
    have hm : ∀ a : Nat, a % q.W.S.P < q.W.S.P := fun a => Nat.mod_lt _ hp.pos
    have la0 := lt a0
    have la1 := lt a1
    have la2 := lt a2
    have lb0 := lt b0
    have lb1 := lt b1
    have lr0 := lt r0
    obtain ⟨l1, el1, el2, len2, lt2⟩ := cut1_ok (by omega) b2 (hm (q.B.e0.getD 0 0 * q.B.e1.getD 0 0))
    obtain ⟨A, B, C, eA, sA, sB, sC⟩ := of_ok v.par a0 a1 a2
    obtain ⟨X, Y, Z, eX, sX, sY, sZ⟩ := of_ok (l := ⟨q.B.e0, q.B.e1, q.B.e0.getD 0 0 * q.B.e1.getD 0 0 % q.W.S.P :: l1⟩) v.par b0 b1 ⟨len2, lt2⟩
    obtain ⟨R, eR, sR'⟩ := row25_ok v.par r0.2 r0.1
    obtain ⟨out, rd, views, ev, o1, o2⟩ := vfy s sA sB sC sX sY sZ sR'
    obtain ⟨h, eh, hl0, hln, hh⟩ := parties_ok s
    obtain ⟨i, hi, he⟩ := hh 0 hl0
    have ei : ((i : Nat) : Int) + 1 - 1 = (i : Int) := by omega
    have o2i := o2 i hi
    have hz : o q.W.S.P ((q.B.e0.getD 0 0 * q.B.e1.getD 0 0 % q.W.S.P :: l1).getD 0 0) - o q.W.S.P (q.B.e0.getD 0 0) * o q.W.S.P (q.B.e1.getD 0 0) = 0 := by
      rw [List.getD_cons_zero, o_mod, o_mul]; grind
    replace o2i : out.getD i false = true ↔ o q.W.S.P (q.R.getD 0 0) * (o q.W.S.P (q.A.e2.getD 0 0) - o q.W.S.P (q.A.e0.getD 0 0) * o q.W.S.P (q.A.e1.getD 0 0)) = 0 := by rw [o2i]; exact ⟨fun h => h.trans hz, fun h => h.trans hz.symm⟩
    rw [nT, cF, ix 0 (by omega), bS, ix 0 (by omega), bS, refMul_ok hp lb0 (by omega), bS, el1, bS, el2, bS, new_ok v, bS, sR, eA, bS, eX, bS, eR, bS, ev, bS, eh, bS, ix 0 (by omega), bS, ix 0 (by omega), bS, ix 0 (by omega), bS, refMul_ok hp la0 (by omega), bS]
    simp only
    rw [o1, eT s.N.symm, cT, ix 0 hl0, bS, he, subI_some (by omega) (by omega), bS, ei, idx_getD false (by omega) (by omega), bS, Int.toNat_natCast]
    have hpr := hm (q.A.e0.getD 0 0 * q.A.e1.getD 0 0)
    by_cases g : q.A.e2.getD 0 0 = q.A.e0.getD 0 0 * q.A.e1.getD 0 0 % q.W.S.P
    · have ht : out.getD i false = true := by
        rw [o2i, g, o_mod, o_mul]; grind
      rw [eT (by omega), cT, ht]; rfl
    · have hd : o q.W.S.P (q.A.e2.getD 0 0) - o q.W.S.P (q.A.e0.getD 0 0) * o q.W.S.P (q.A.e1.getD 0 0) ≠ 0 := fun h => by
        apply g
        apply o_inj la2 hpr
        rw [o_mod, o_mul]
        have : o q.W.S.P (q.A.e2.getD 0 0) = (o q.W.S.P (q.A.e2.getD 0 0) - o q.W.S.P (q.A.e0.getD 0 0) * o q.W.S.P (q.A.e1.getD 0 0)) + o q.W.S.P (q.A.e0.getD 0 0) * o q.W.S.P (q.A.e1.getD 0 0) := by grind
        rw [this, h]; grind
      rw [eF (by omega), cF, ix 0 (by omega), bS]
      by_cases gr : q.R.getD 0 0 = 0
      · have ht : out.getD i false = true := by
          rw [o2i, gr, o_zero]; grind
        rw [ht, eT (by omega)]; rfl
      · have ht : out.getD i false = false := by
          rw [Bool.eq_false_iff]
          intro h
          have h := o2i.1 h
          rcases hp.nz _ _ h with h1 | h1
          · exact gr (o_inj lr0 hp.pos (by rw [h1, o_zero]))
          · exact hd h1
        rw [ht, eF (by omega)]; rfl
theorem law_Scaled (q : T_privitylaw25_Ask) (k : Nat) (hK : ∀ x ∈ q.W.Deviations, x.K < 18446744073709551616) : privitylaw25_TriplestoreVerifyScaled q k = some true := by
  unfold privitylaw25_TriplestoreVerifyScaled
  obtain ⟨b, e, hb⟩ := fair25_ok hK
  rw [aw25, bS, nT, cF, e, bS]
  cases b with
  | false => rw [nF, cT, bS, cT]
  | true =>
    obtain ⟨n, t, v, h7⟩ := hb rfl
    have s := v.toSc
    have hp := s.sup
    haveI : NeZero q.W.S.P := hp.ne
    have hlt := hp.lt
    have h13 := s.n13
    have h3 := s.t3
    have a0 := h7 0 (by omega)
    have a1 := h7 1 (by omega)
    have a2 := h7 2 (by omega)
    have b0 := h7 3 (by omega)
    have b1 := h7 4 (by omega)
    have b2 := h7 5 (by omega)
    have r0 := h7 6 (by omega)
    change q.A.e0.length = _ ∧ Lt _ q.A.e0 at a0
    change q.A.e1.length = _ ∧ Lt _ q.A.e1 at a1
    change q.A.e2.length = _ ∧ Lt _ q.A.e2 at a2
    change q.B.e0.length = _ ∧ Lt _ q.B.e0 at b0
    change q.B.e1.length = _ ∧ Lt _ q.B.e1 at b1
    change q.B.e2.length = _ ∧ Lt _ q.B.e2 at b2
    change q.R.length = _ ∧ Lt _ q.R at r0
    have lt := fun {l : List Nat} (h : l.length = t + 1 ∧ Lt q.W.S.P l) => h.2 0 (by omega)
    have hm : ∀ a : Nat, a % q.W.S.P < q.W.S.P := fun a => Nat.mod_lt _ hp.pos
    have la0 := lt a0
    have la1 := lt a1
    have lb0 := lt b0
    have lb1 := lt b1
    have lr0 := lt r0
    rw [nT, cF]
    by_cases gk : k ≥ q.W.S.P
    · rw [dT (by omega), cT, bS, cT]
    · rw [dF (by omega), cF, ix 0 (by omega), bS]
      by_cases gr : q.R.getD 0 0 = 0
      · rw [eT (by omega), bS, cT]
      · have hkp : k < q.W.S.P := by omega
        obtain ⟨l1, el1, el2, len2, lt2⟩ := cut1_ok (by omega) a2 (hm (q.A.e0.getD 0 0 * q.A.e1.getD 0 0))
        obtain ⟨l3, el3, el4, len4, lt4⟩ := cut1_ok (by omega) b2 (hm (q.B.e0.getD 0 0 * q.B.e1.getD 0 0))
        obtain ⟨A, B, C, eA, sA, sB, sC⟩ := of_ok (l := ⟨q.A.e0, q.A.e1, q.A.e0.getD 0 0 * q.A.e1.getD 0 0 % q.W.S.P :: l1⟩) v.par a0 a1 ⟨len2, lt2⟩
        obtain ⟨X, Y, Z, eX, sX, sY, sZ⟩ := of_ok (l := ⟨q.B.e0, q.B.e1, q.B.e0.getD 0 0 * q.B.e1.getD 0 0 % q.W.S.P :: l3⟩) v.par b0 b1 ⟨len4, lt4⟩
        obtain ⟨R, eR, sR'⟩ := row25_ok v.par r0.2 r0.1
        obtain ⟨KA, eKA, sKA⟩ := scale25_ok hp (by omega) (by omega) hkp sA
        obtain ⟨KC, eKC, sKC⟩ := scale25_ok hp (by omega) (by omega) hkp sC
        obtain ⟨out, rd, views, ev, o1, o2⟩ := vfy s sKA sB sKC sX sY sZ sR'
        obtain ⟨out', rd', views', ev', o1', o2'⟩ := vfy s sKA sB sC sX sY sZ sR'
        obtain ⟨h, eh, hl0, hln, hh⟩ := parties_ok s
        obtain ⟨i, hi, he⟩ := hh 0 hl0
        have ei : ((i : Nat) : Int) + 1 - 1 = (i : Int) := by omega
        have hz : o q.W.S.P ((q.B.e0.getD 0 0 * q.B.e1.getD 0 0 % q.W.S.P :: l3).getD 0 0) - o q.W.S.P (q.B.e0.getD 0 0) * o q.W.S.P (q.B.e1.getD 0 0) = 0 := by
          rw [List.getD_cons_zero, o_mod, o_mul]; grind
        have hc : o q.W.S.P ((q.A.e0.getD 0 0 * q.A.e1.getD 0 0 % q.W.S.P :: l1).getD 0 0) = o q.W.S.P (q.A.e0.getD 0 0) * o q.W.S.P (q.A.e1.getD 0 0) := by
          rw [List.getD_cons_zero, o_mod, o_mul]
        have t1 : out.getD i false = true := by
          rw [o2 i hi]
          show _ * (_ * o q.W.S.P ((q.A.e0.getD 0 0 * q.A.e1.getD 0 0 % q.W.S.P :: l1).getD 0 0) - _) = _
          refine Eq.trans ?_ hz.symm
          rw [hc]; grind
        have o2i : out'.getD i false = true ↔ o q.W.S.P (q.R.getD 0 0) * ((o q.W.S.P (q.A.e0.getD 0 0) * o q.W.S.P (q.A.e1.getD 0 0)) * (1 - o q.W.S.P k)) = 0 := by
          rw [o2' i hi]
          have e1 : o q.W.S.P (q.R.getD 0 0) * (o q.W.S.P ((q.A.e0.getD 0 0 * q.A.e1.getD 0 0 % q.W.S.P :: l1).getD 0 0) - o q.W.S.P k * o q.W.S.P (q.A.e0.getD 0 0) * o q.W.S.P (q.A.e1.getD 0 0)) = o q.W.S.P (q.R.getD 0 0) * ((o q.W.S.P (q.A.e0.getD 0 0) * o q.W.S.P (q.A.e1.getD 0 0)) * (1 - o q.W.S.P k)) := by rw [hc]; grind
          rw [← e1]
          exact ⟨fun h => h.trans hz, fun h => h.trans hz.symm⟩
        have hpr := hm (q.A.e0.getD 0 0 * q.A.e1.getD 0 0)
        have g2 : ((q.A.e0.getD 0 0 * q.A.e1.getD 0 0 % q.W.S.P :: l1) : List Nat)[0]? = some (q.A.e0.getD 0 0 * q.A.e1.getD 0 0 % q.W.S.P) := rfl
        rw [eF (by omega), bS, cF, ix 0 (by omega), bS, ix 0 (by omega), bS, refMul_ok hp la0 (by omega), bS, el1, bS, el2, bS, ix 0 (by omega), bS, ix 0 (by omega), bS, refMul_ok hp lb0 (by omega), bS, el3, bS, el4, bS, eA, bS, eX, bS, eR, bS, eh, bS]
        simp only
        rw [eKA, bS, eKC, bS, new_ok v, bS, sR, ev, bS, ev', bS]
        simp only
        rw [o1, o1', eT s.N.symm, cT, cT, ix 0 hl0, bS, he, subI_some (by omega) (by omega), bS, ei, idx_getD false (by omega) (by omega), bS, Int.toNat_natCast, t1, cT, idx_getD false (by omega) (by omega), bS, Int.toNat_natCast]
        by_cases g1 : k = 1
        · have ht : out'.getD i false = true := by
            rw [o2i, g1, o_one]; grind
          rw [eT (by omega), cT, ht]; rfl
        · rw [eF (by omega), cF, g2, bS]
          by_cases g0 : q.A.e0.getD 0 0 * q.A.e1.getD 0 0 % q.W.S.P = 0
          · have h0 : o q.W.S.P (q.A.e0.getD 0 0) * o q.W.S.P (q.A.e1.getD 0 0) = 0 := by
              rw [← o_mul, ← o_mod, g0, o_zero]
            have ht : out'.getD i false = true := by
              rw [o2i, h0]; grind
            rw [ht, eT (by omega)]; rfl
          · have ht : out'.getD i false = false := by
              rw [Bool.eq_false_iff]
              intro h
              have h := o2i.1 h
              rcases hp.nz _ _ h with h1 | h1
              · exact gr (o_inj lr0 hp.pos (by rw [h1, o_zero]))
              · rcases hp.nz _ _ h1 with h2 | h2
                · apply g0
                  apply o_inj hpr hp.pos
                  rw [o_mod, o_mul, h2, o_zero]
                · apply g1
                  apply o_inj hkp (show 1 < q.W.S.P by omega)
                  rw [o_one]
                  have : o q.W.S.P k = 1 - (1 - o q.W.S.P k) := by grind
                  rw [this, h2]; grind
            rw [ht, eF (by omega)]; rfl
end Pu
