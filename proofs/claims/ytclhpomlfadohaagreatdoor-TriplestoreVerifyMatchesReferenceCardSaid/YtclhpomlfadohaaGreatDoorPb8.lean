/- Plain laws of the reference's small functions, and of opening shares. -/
import Derived.Test.YtclhpomlfadohaaGreatDoorPb7
set_option linter.unusedVariables false
namespace Pu
open Gw Gl Sp Lean.Grind
theorem refMul_ok {p a b : Nat} (hp : Sup p) (ha : a < p) (hb : b < 18446744073709551616) : privityref01_Mul p a b = some (a * b % p) := by
  have hl := hp.lt
  unfold privityref01_Mul
  obtain ⟨r, e, hr⟩ := lpO_big (step := fun (st : Nat × Nat × Nat) => privityref01_Mul_L0 p st.1 st.2.1 st.2.2) (fun st => st.1 < p ∧ st.2.1 < 18446744073709551616 ∧ st.2.2 < p ∧ (st.2.2 + st.1 * st.2.1) % p = a * b % p) (fun r => r = a * b % p) (fun st => st.2.1) (fun st ⟨h1, h2, h3, h4⟩ => by
    obtain ⟨x, m, o⟩ := st
    replace h1 : x < p := h1
    replace h2 : m < 18446744073709551616 := h2
    replace h3 : o < p := h3
    replace h4 : (o + x * m) % p = a * b % p := h4
    show ∃ q, privityref01_Mul_L0 p x m o = some q ∧ _
    unfold privityref01_Mul_L0
    by_cases c : m = 0
    · subst c
      rw [dF (by omega), cF]
      refine ⟨_, rfl, ?_⟩
      show o = _
      rw [← h4, Nat.mul_zero, Nat.add_zero, Nat.mod_eq_of_lt h3]
    · have r2 : ∀ y, remU y 2 = some (y % 2) := fun y => by unfold remU; rw [if_neg (by decide)]
      have rp : ∀ y, remU y p = some (y % p) := fun y => by unfold remU; rw [if_neg (by omega)]
      have d2 : divU m 2 = some (m / 2) := by unfold divU; rw [if_neg (by decide), Nat.mod_eq_of_lt (by omega)]
      have a1 : addU o x = o + x := Nat.mod_eq_of_lt (by omega)
      have a2 : addU x x = x + x := Nat.mod_eq_of_lt (by omega)
      have hx : (x + x) * (m / 2) = x * (2 * (m / 2)) := by rw [← Nat.two_mul, Nat.mul_assoc, Nat.mul_left_comm, Nat.mul_left_comm]
      rw [dT (by omega), cT, r2, bS]
      by_cases g : m % 2 = 1
      · rw [eT (by omega), cT, a1, bS, rp, bS, a2, bS, rp, bS, d2, bS]
        refine ⟨_, rfl, ⟨Nat.mod_lt _ hp.pos, by show m / 2 < _; omega, Nat.mod_lt _ hp.pos, ?_⟩, by show m / 2 < m; omega⟩
        show ((o + x) % p + (x + x) % p * (m / 2)) % p = _
        rw [← h4, Nat.add_mod, Nat.mul_mod, Nat.mod_mod, Nat.mod_mod, ← Nat.mul_mod, ← Nat.add_mod, hx]
        congr 1
        have : m = 1 + 2 * (m / 2) := by omega
        conv => rhs; rw [this, Nat.mul_add, Nat.mul_one]
        omega
      · rw [eF (by omega), cF, a2, bS, rp, bS, d2, bS]
        refine ⟨_, rfl, ⟨Nat.mod_lt _ hp.pos, by show m / 2 < _; omega, h3, ?_⟩, by show m / 2 < m; omega⟩
        show (o + (x + x) % p * (m / 2)) % p = _
        rw [← h4, Nat.add_mod, Nat.mul_mod, Nat.mod_mod, ← Nat.mul_mod, ← Nat.add_mod, hx]
        congr 3
        omega)
    (s := (a, b, 0)) ⟨ha, hb, hp.pos, by simp⟩ hb
  rw [e, bS, hr]
theorem refAdd_ok {p a b : Nat} (hp : Sup p) (h : a + b < 18446744073709551616) : privityref01_Add p a b = some ((a + b) % p) := by
  have hl := hp.lt
  unfold privityref01_Add
  have a1 : addU a b = a + b := Nat.mod_eq_of_lt h
  rw [a1, bS]
  unfold remU
  rw [if_neg (by omega), bS]
section
variable {p : Nat} [NeZero p]
theorem refEval_ok (hp : Sup p) {f : List Nat} {x : Nat} (hf : Lt p f) (hx : x < p) : ∃ y, privityref04_Eval p f x = some y ∧ y < p ∧ o p y = evl (P p f) (o p x) := by
  have hl := hp.lt
  unfold privityref04_Eval
  rw [Nat.sub_zero]
  obtain ⟨⟨a, b⟩, e, h1, h2, h3, h4⟩ := rgS_inv (body := fun k1 (st : Nat × Nat) => privityref04_Eval_L0 p f x k1 st.1 st.2) (rem := f.length) (k := 0) (s := (0, 1))
    (fun k st => st.1 < p ∧ st.2 < p ∧ o p st.1 = sm k (fun j => cf (P p f) j * o p x ^ j) ∧ o p st.2 = o p x ^ k) ⟨hp.pos, by show 1 < p; omega, by show o p 0 = _; rw [o_zero]; rfl, by show o p 1 = _; rw [o_one]; grind⟩ (fun k st _ hk ⟨h1, h2, h3, h4⟩ => by
      have hfk := hf k (by omega)
      have hm := Nat.mod_lt (f.getD k 0 * st.2) hp.pos
      unfold privityref04_Eval_L0
      rw [ix 0 (by omega), bS, refMul_ok hp hfk (by omega), bS, refAdd_ok hp (by omega), bS, refMul_ok hp h2 (by omega), bS]
      refine ⟨_, rfl, Nat.mod_lt _ hp.pos, Nat.mod_lt _ hp.pos, ?_, ?_⟩
      · show o p ((st.1 + f.getD k 0 * st.2 % p) % p) = _
        rw [o_mod, o_add, o_mod, o_mul, h3, h4, sm, P_cf]
      · show o p (st.2 * x % p) = _
        rw [o_mod, o_mul, h4]; grind)
  rw [e, bS]
  refine ⟨a, rfl, h1, ?_⟩
  rw [evl_sm (n := f.length) _ (by rw [P_len]; exact Nat.le_refl _), ← Nat.zero_add f.length]
  exact h3
end
theorem points_ok {w : List Nat} (h : w.length ≤ 100) : ∃ pts, reconstruct_points w = some pts ∧ pts.length = w.length ∧ ∀ i, i < w.length → pts.getD i default = ⟨i + 1, w.getD i 0⟩ := by
  unfold reconstruct_points
  rw [Nat.sub_zero]
  obtain ⟨l, e, h1, h2⟩ := rgS_inv (body := fun k1 (st : (List T_api_Point)) => reconstruct_points_L0 w k1 st) (rem := w.length) (k := 0) (s := ([] : List T_api_Point)) (fun k l => l.length = k ∧ ∀ i, i < k → l.getD i default = ⟨i + 1, w.getD i 0⟩) ⟨rfl, fun i hi => by omega⟩ (fun k l _ hk ⟨h1, h2⟩ => by
    unfold reconstruct_points_L0
    have hu : toU (((k : Nat) : Int) + 1) = k + 1 := by unfold toU; omega
    rw [ix 0 (by omega), bS, addI_some (by omega) (by omega), bS, hu, bS, appO_some (by rw [h1]; simp; omega) (by rw [h1]; simp; omega), bS]
    refine ⟨_, rfl, by simp [h1], fun i hi => ?_⟩
    by_cases g : i < k
    · rw [getD_app_l (by omega)]; exact h2 i g
    · have : i = k := by omega
      subst this
      rw [getD_app_e h1.symm])
  rw [Nat.zero_add] at h1 h2
  rw [e, bS]
  exact ⟨_, rfl, h1, h2⟩
theorem pts_ok {p : Nat} (hp : Sup p) {w : List Nat} {pts : List T_api_Point} (hw : Lt p w) (hl : w.length ≤ 13) (h1 : pts.length = w.length) (h2 : ∀ i, i < w.length → pts.getD i default = ⟨i + 1, w.getD i 0⟩) : Pts p pts := by
  have hlt := hp.lt
  refine ⟨fun i hi => ?_, fun i hi => ?_, fun i hi j hj => ?_⟩
  · rw [h2 i (by omega)]; show i + 1 < p; omega
  · rw [h2 i (by omega)]; exact hw i (by omega)
  · rw [h2 i (by omega), h2 j (by omega)]; show j + 1 ≠ i + 1; omega
theorem sub_len {l1 : List Int} : ∀ {l2 : List Int}, l1.Nodup → (∀ x ∈ l1, x ∈ l2) → l1.length ≤ l2.length := by
  induction l1 with
  | nil => intro l2 _ _; simp
  | cons x t ih =>
    intro l2 hn hs
    have hx : x ∈ l2 := hs x (by simp)
    have hl2 := (List.perm_cons_erase hx).length_eq
    rw [List.nodup_cons] at hn
    have := ih (l2 := l2.erase x) hn.2 (fun y hy => (List.mem_erase_of_ne (by intro e; subst e; exact hn.1 hy)).2 (hs y (by simp [hy])))
    simp at hl2 ⊢; omega
/-- what party j heard of the k-th words -/
def wd (all : List (List (List Nat))) (n j k : Nat) : List Nat := (List.range n).map fun i => ((all.getD i []).getD j []).getD k 0
theorem wd_len {all : List (List (List Nat))} {n j k : Nat} : (wd all n j k).length = n := by simp [wd]
theorem wd_get {all : List (List (List Nat))} {n j k i : Nat} (hi : i < n) : (wd all n j k).getD i 0 = ((all.getD i []).getD j []).getD k 0 := by
  unfold wd; simp [List.getD_eq_getElem?_getD, hi]
/-- telling lists to all, and hearing them -/
theorem said_ok {net : T_network_Net} {n t L m : Nat} (s : Sc net.zw n t) {lists : List (List Nat)} (h1 : lists.length = n) (h2 : ∀ i, i < n → Lt net.zw.S.P (lists.getD i []) ∧ (lists.getD i []).length ≤ L) (hL : L ≤ 100) (hm : m ≤ 100) (hv : net.zviews.length = n) (hb : ∀ j, j < n → (net.zviews.getD j []).length ≤ 500) (hr : 0 ≤ net.zround ∧ net.zround ≤ 1000) :
    ∃ all heard views, reconstruct_said net lists ((m : Nat) : Int) = some (heard, net.zround + 1, views) ∧ Sq net.zw.S.P n L all ∧ (∀ i, i < n → (((i : Nat) : Int) + 1) ∉ net.zw.Corrupt → ∀ j, j < n → (all.getD i []).getD j [] = lists.getD i []) ∧
      heard.length = n ∧ (∀ j, j < n → (heard.getD j []).length = m ∧ ∀ k, k < m → (heard.getD j []).getD k [] = wd all n j k) ∧ views.length = n ∧ ∀ j, j < n → views.getD j [] = net.zviews.getD j [] ++ evs net.zround all j n := by
  have h13 := s.n13
  have hp := s.sup
  unfold reconstruct_said
  rw [h1, mkO_some (by omega) (by omega) (by omega) (by omega), bS, Int.toNat_natCast, Nat.sub_zero]
  obtain ⟨out, e1, o1, o2, _⟩ := rgS_inv (body := fun k1 (st : (List (List (List Nat)))) => reconstruct_said_L0 lists k1 st) (rem := n) (k := 0) (s := List.replicate n [])
    (fun k l => l.length = n ∧ (∀ i, i < k → l.getD i [] = List.replicate n (lists.getD i [])) ∧ ∀ i, k ≤ i → l.getD i [] = []) ⟨by simp, fun i hi => by omega, fun i _ => by by_cases g : i < n <;> simp [List.getD_eq_getElem?_getD, g]⟩ (fun k l _ hk ⟨g1, g2, g3⟩ => by
      have hkn : k < n := by omega
      unfold reconstruct_said_L0
      rw [ix [] (by omega), bS, h1, Nat.sub_zero]
      obtain ⟨l', e', q1, q2, q3⟩ := rgS_inv (body := fun k2 (st : (List (List (List Nat)))) => reconstruct_said_L1 k (lists.getD k []) k2 st) (rem := n) (k := 0) (s := l)
        (fun q l' => l'.length = n ∧ l'.getD k [] = List.replicate q (lists.getD k []) ∧ ∀ i, i ≠ k → l'.getD i [] = l.getD i []) ⟨g1, by rw [g3 k (Nat.le_refl k)]; rfl, fun _ _ => rfl⟩ (fun q l' _ hq ⟨q1, q2, q3⟩ => by
          unfold reconstruct_said_L1
          rw [ix [] (by omega), bS, q2, appO_some (by simp; omega) (by simp; omega), bS, bS]
          refine ⟨_, rfl, by rw [List.length_set]; exact q1, by rw [getD_set (by omega), if_pos rfl, ← List.replicate_succ'], fun i hi => by rw [getD_set (by omega), if_neg (fun e => hi e.symm)]; exact q3 i hi⟩)
      rw [e', bS]
      rw [Nat.zero_add] at q2
      refine ⟨_, rfl, q1, fun i hi => ?_, fun i hi => ?_⟩
      · by_cases g : i = k
        · subst g; exact q2
        · rw [q3 i g]; exact g2 i (by omega)
      · rw [q3 i (by omega)]; exact g3 i (by omega))
  rw [Nat.zero_add] at o2
  have sq : Sq net.zw.S.P n L out := ⟨o1, fun i hi => by rw [o2 i hi]; simp, fun i hi j hj => by
    have : (out.getD i []).getD j [] = lists.getD i [] := by rw [o2 i hi]; simp [List.getD_eq_getElem?_getD, hj]
    rw [this]; exact h2 i hi⟩
  obtain ⟨all, inn, views, _, es, ⟨s1, _⟩, s2, s3, s4, s5, s6⟩ := send_ok s sq hL hv hb hr
  rw [e1, bS, es, bS]
  simp only
  rw [s3, mkO_some (by omega) (by omega) (by omega) (by omega), bS, Int.toNat_natCast, Nat.sub_zero]
  obtain ⟨heard, e2, t1, t2, _⟩ := rgS_inv (body := fun k3 (st : (List (List (List Nat)))) => reconstruct_said_L2 ((m : Nat) : Int) (inn, net.zround + 1, views) k3 st) (rem := n) (k := 0) (s := List.replicate n [])
    (fun j l => l.length = n ∧ (∀ i, i < j → (l.getD i []).length = m ∧ ∀ k, k < m → (l.getD i []).getD k [] = wd all n i k) ∧ True) ⟨by simp, fun i hi => by omega, trivial⟩ (fun j l _ hj ⟨t1, t2, _⟩ => by
      have hjn : j < n := by omega
      obtain ⟨i1, i2⟩ := s4 j hjn
      unfold reconstruct_said_L2
      rw [mkO_some (by omega) (by omega) (by omega) (by omega), bS, Int.toNat_natCast, ix [] (by omega), bS, bS]
      simp only
      rw [ix [] (by omega), bS, i1, Nat.sub_zero]
      obtain ⟨l', e', q1, q2, q3, q4⟩ := rgS_inv (body := fun k4 (st : (List (List (List Nat)))) => reconstruct_said_L3 ((m : Nat) : Int) j (inn.getD j []) k4 st) (rem := n) (k := 0) (s := l.set j (List.replicate m []))
        (fun i l' => l'.length = n ∧ (l'.getD j []).length = m ∧ (∀ k, k < m → (l'.getD j []).getD k [] = wd all i j k) ∧ ∀ q, q ≠ j → l'.getD q [] = l.getD q []) ⟨by rw [List.length_set]; exact t1, by rw [getD_set (by omega), if_pos rfl]; simp, fun k hk => by rw [getD_set (by omega), if_pos rfl]; simp [wd, List.getD_eq_getElem?_getD, hk], fun q hq => by rw [getD_set (by omega), if_neg (fun e => hq e.symm)]⟩ (fun i l' _ hi ⟨q1, q2, q3, q4⟩ => by
          have hin : i < n := by omega
          unfold reconstruct_said_L3
          rw [ix [] (by omega), bS, i2 i hin]
          obtain ⟨r, er, r1, r2⟩ := resize_ok (l := (all.getD i []).getD j []) (m := m) (by omega)
          rw [er, bS, r1, Nat.sub_zero]
          obtain ⟨l2, e2, u1, u2, u3, u4⟩ := rgS_inv (body := fun k5 (st : (List (List (List Nat)))) => reconstruct_said_L4 j r k5 st) (rem := m) (k := 0) (s := l')
            (fun k l2 => l2.length = n ∧ (l2.getD j []).length = m ∧ (∀ q, q < m → (l2.getD j []).getD q [] = if q < k then wd all i j q ++ [r.getD q 0] else wd all i j q) ∧ ∀ q, q ≠ j → l2.getD q [] = l.getD q []) ⟨q1, q2, fun q hq => by rw [if_neg (by omega)]; exact q3 q hq, q4⟩ (fun k l2 _ hk ⟨u1, u2, u3, u4⟩ => by
              have hkm : k < m := by omega
              unfold reconstruct_said_L4
              have hwl := wd_len (all := all) (n := i) (j := j) (k := k)
              rw [ix 0 (by omega), bS, ix [] (by omega), bS, ix [] (by omega), bS, u3 k hkm, if_neg (by omega), appO_some (by rw [hwl]; simp; omega) (by rw [hwl]; simp; omega), bS, bS, bS]
              refine ⟨_, rfl, by rw [List.length_set]; exact u1, by rw [getD_set (by omega), if_pos rfl, List.length_set]; exact u2, fun q hq => ?_, fun q hq => by rw [getD_set (by omega), if_neg (fun e => hq e.symm)]; exact u4 q hq⟩
              rw [getD_set (by omega), if_pos rfl, getD_set (by omega)]
              by_cases g : k = q
              · subst g; rw [if_pos rfl, if_pos (by omega)]
              · rw [if_neg g, u3 q hq]
                by_cases g2 : q < k
                · rw [if_pos g2, if_pos (by omega)]
                · rw [if_neg g2, if_neg (by omega)])
          rw [e2, bS]
          refine ⟨_, rfl, u1, u2, fun k hk => ?_, u4⟩
          rw [u3 k hk, if_pos (by omega), r2 k hk]
          unfold wd
          rw [List.range_succ, List.map_append]; rfl)
      rw [e', bS]
      rw [Nat.zero_add] at q3
      refine ⟨_, rfl, q1, fun i hi => ?_, trivial⟩
      by_cases g : i = j
      · subst g; exact ⟨q2, q3⟩
      · rw [q4 i g]; exact t2 i (by omega))
  rw [Nat.zero_add] at t2
  rw [e2, bS]
  refine ⟨all, heard, views, rfl, s1, fun i hi hc j hj => ?_, t1, t2, s5, s6⟩
  rw [s2 i hi hc, o2 i hi]; simp [List.getD_eq_getElem?_getD, hj]
end Pu
