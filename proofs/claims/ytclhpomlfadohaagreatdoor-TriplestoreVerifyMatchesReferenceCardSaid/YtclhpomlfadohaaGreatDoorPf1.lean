/- Plain laws of chapter 25: verifying triples. -/
import Derived.Test.YtclhpomlfadohaaGreatDoorPb9
set_option linter.unusedVariables false
namespace Pu
open Gw Gl Sp Lean.Grind
/-- a small scenario -/
theorem light_ok {w : T_api_Scenario} {parties lies words : Int} (hK : ∀ x ∈ w.Deviations, x.K < 18446744073709551616) (hl : lies ≤ 40) (hw : words ≤ 100) : ∃ b, privityref12_Light w parties lies words = some b ∧ (b = true → ∃ n t, Va w n t ∧ privityref12_ValidScenario w = some true) := by
  unfold privityref12_Light
  by_cases g1 : w.S.N > parties
  · rw [dT g1, cT, bS, cT]; exact ⟨_, rfl, fun h => by cases h⟩
  · rw [dF g1, cF]
    by_cases g2 : ((w.Deviations.length : Nat) : Int) > lies
    · rw [dT g2, cT, bS, cT]; exact ⟨_, rfl, fun h => by cases h⟩
    · rw [dF g2, cF]
      by_cases g3 : ((w.Tapes.length : Nat) : Int) > parties
      · rw [dT g3, bS, cT]; exact ⟨_, rfl, fun h => by cases h⟩
      · rw [dF g3, bS, cF, Nat.sub_zero]
        obtain ⟨o, e, ho⟩ := rgO_inv (body := fun k1 (st : Unit) => privityref12_Light_L0 w words k1) (fun k _ => ∀ i, i < k → (((w.Tapes.getD i []).length : Nat) : Int) ≤ words) (fun r => r = false) (rem := w.Tapes.length) (k := 0) (s := ()) (fun i hi => by omega) (fun k _ _ hk h => by
          unfold privityref12_Light_L0
          rw [ix [] (by omega), bS]
          by_cases g : (((w.Tapes.getD k []).length : Nat) : Int) > words
          · rw [dT g, cT]; exact ⟨_, rfl, rfl⟩
          · rw [dF g, cF]
            refine ⟨_, rfl, fun i hi => ?_⟩
            by_cases e : i = k
            · subst e; omega
            · exact h i (by omega))
        rw [e, bS]
        cases o with
        | fin r => rw [oF]; exact ⟨_, rfl, fun h => by rw [ho] at h; cases h⟩
        | go _ =>
          rw [oG]
          obtain ⟨b, eb, hb⟩ := refScen (w := w)
          rw [eb, bS]
          refine ⟨_, rfl, fun hbt => ?_⟩
          subst hbt
          obtain ⟨n, t, par, c1, c2, c3, c4, c5, c6⟩ := hb rfl
          have hd : ∀ x ∈ w.Deviations, Dv w.S x := fun x hx => by
            obtain ⟨i, hi, rfl⟩ := List.getElem_of_mem hx
            have := c5 i hi
            rw [List.getD_eq_getElem?_getD, List.getElem?_eq_getElem hi] at this
            exact this
          refine ⟨n, t, { sup := par.sup, N := par.N, T := par.T, n4 := par.n4, n13 := par.n13, t1 := par.t1, t3 := par.t3, cl := c1, cr := c2, dl := by omega, dv := fun x hx => ?_, ord := c3, tl := c4, tb := fun i hi => c6 i (by omega), ts := fun i hi => by have := ho i (by omega); omega, full := fun x hx => ?_ }, rfl⟩
          · obtain ⟨d1, d2, d3, d4, d5, d6, d7, d8, d9, d10, d11, d12⟩ := hd x hx
            rw [par.N] at d5 d11
            exact ⟨d4, d5, d2, d3, d10, d11, d12, hK x hx⟩
          · obtain ⟨d1, d2, d3, d4, d5, d6, d7, d8, d9, d10, d11, d12⟩ := hd x hx
            rw [par.N] at d7
            exact ⟨d1, d6, d7, d8, d9⟩
/-- a loop that appends -/
theorem rgS_tab {α : Type} {body : Nat → List α → Option (List α)} (v : Nat → α) : ∀ {n : Nat}, (∀ j l, j < n → l.length = j → body j l = some (l ++ [v j])) → rgS body n 0 [] = some ((List.range n).map v) := fun {n} h => by
  obtain ⟨r, e, h2⟩ := rgS_inv (body := body) (fun k l => l = (List.range k).map v) (rem := n) (k := 0) (s := []) rfl (fun j l _ hj hl => by
    subst hl
    exact ⟨_, h j _ (by omega) (by simp), by rw [List.range_succ, List.map_append]; rfl⟩)
  rw [e, h2, Nat.zero_add]
theorem rgS_tab1 {α : Type} {body : Nat → List α → Option (List α)} (v : Nat → α) : ∀ {n : Nat}, (∀ j l, j < n → l.length = j → body (j + 1) l = some (l ++ [v j])) → rgS body n 1 [] = some ((List.range n).map v) := fun {n} h => by
  obtain ⟨r, e, h2⟩ := rgS_inv (body := body) (fun k l => ∃ j, k = j + 1 ∧ l = (List.range j).map v) (rem := n) (k := 1) (s := []) ⟨0, rfl, rfl⟩ (fun k l h1 hj ⟨j, hk, hl⟩ => by
    subst hl; subst hk
    exact ⟨_, h j _ (by omega) (by simp), j + 1, rfl, by rw [List.range_succ, List.map_append]; rfl⟩)
  obtain ⟨j, hj, h3⟩ := h2
  have : j = n := by omega
  subst this
  rw [e, h3]
/-- a matrix by its entries -/
def tab (n m : Nat) (v : Nat → Nat → Nat) : List (List Nat) := (List.range n).map fun i => (List.range m).map (v i)
theorem tab_len {n m : Nat} {v : Nat → Nat → Nat} : (tab n m v).length = n := by simp [tab]
theorem tab_row {n m i : Nat} {v : Nat → Nat → Nat} (hi : i < n) : (tab n m v).getD i [] = (List.range m).map (v i) := by
  unfold tab; simp [List.getD_eq_getElem?_getD, hi]
theorem tab_get {n m i j : Nat} {v : Nat → Nat → Nat} (hi : i < n) (hj : j < m) : ((tab n m v).getD i []).getD j 0 = v i j := by
  rw [tab_row hi]; simp [List.getD_eq_getElem?_getD, hj]
theorem tab_rl {n m i : Nat} {v : Nat → Nat → Nat} (hi : i < n) : ((tab n m v).getD i []).length = m := by rw [tab_row hi]; simp
theorem tab_Mat {p n m : Nat} {v : Nat → Nat → Nat} (h : ∀ i, i < n → ∀ j, j < m → v i j < p) : Mat p n m (tab n m v) := ⟨tab_len, fun i hi => tab_rl hi, fun i hi j hj => by rw [tab_get hi hj]; exact h i hi j hj⟩
theorem ap1 {α : Type} {b : Nat} {l : List α} {x : α} (h : l.length ≤ 1000) (hb : b ≤ 1000) : appO b l [x] = some (l ++ [x]) := by
  have h1 : l.length + [x].length ≤ 1001 := by simp only [List.length_cons, List.length_nil]; omega
  have h2 : (l.length + [x].length) * b ≤ 1001 * 1000 := Nat.mul_le_mul h1 hb
  exact appO_some (by omega) (by omega)
/-- the polynomial as a list -/
def pol {p : Nat} (t : Nat) (g : Nat → Fin p) : List Nat := (List.range (t + 1)).map fun c => (g c).val
theorem pol_len {p t : Nat} {g : Nat → Fin p} : (pol t g).length = t + 1 := by simp [pol]
section
variable {p : Nat} [NeZero p]
/-- the value of a polynomial -/
def ev (p : Nat) (q : List Nat) (x : Nat) : Nat := (privityref04_Eval p q x).getD 0
theorem ev_ok (hp : Sup p) {q : List Nat} {x : Nat} (hq : Lt p q) (hx : x < p) : privityref04_Eval p q x = some (ev p q x) ∧ ev p q x < p ∧ o p (ev p q x) = evl (P p q) (o p x) := by
  obtain ⟨y, e, h1, h2⟩ := refEval_ok hp hq hx
  have : ev p q x = y := by unfold ev; rw [e]; rfl
  rw [this]
  exact ⟨e, h1, h2⟩
/-- a sharing by its first words: the polynomial's coefficients -/
structure Sg (p n t : Nat) [NeZero p] (M : List (List Nat)) (g : Nat → Fin p) : Prop where
  mat : Mat p n (t + 1) M
  val : ∀ i, i < n → o p ((M.getD i []).getD 0 0) = sm (t + 1) (fun c => g c * o p (i + 1) ^ c)
theorem pol_get {t c : Nat} {g : Nat → Fin p} (hc : c < t + 1) : o p ((pol t g).getD c 0) = g c := by
  have : (pol t g).getD c 0 = (g c).val := by unfold pol; simp [List.getD_eq_getElem?_getD, hc]
  rw [this, o_val]
theorem pol_evl {t : Nat} {g : Nat → Fin p} (x : Fin p) : evl (P p (pol t g)) x = sm (t + 1) (fun c => g c * x ^ c) := by
  rw [evl_sm (n := t + 1) x (by rw [P_len, pol_len]; exact Nat.le_refl _)]
  exact sm_congr fun c hc => by rw [P_cf, pol_get hc]
theorem evl_co {t : Nat} {q : List Nat} (hq : q.length = t + 1) (x : Fin p) : evl (P p q) x = sm (t + 1) (fun c => o p (q.getD c 0) * x ^ c) := by
  rw [evl_sm (n := t + 1) x (by rw [P_len, hq]; exact Nat.le_refl _)]
  exact sm_congr fun c hc => by rw [P_cf]
theorem sm_one (t : Nat) (w x : Fin p) : sm (t + 1) (fun c => (if c = 0 then w else 0) * x ^ c) = w := by
  induction t with
  | zero => simp only [sm]; rw [if_pos trivial]; grind
  | succ t ih => simp only [sm] at ih ⊢; rw [ih, if_neg (by omega)]; grind
end
/-- a row of the reference -/
theorem row25_ok {s : T_api_Params} {n t : Nat} [NeZero s.P] (par : Par s n t) {q : List Nat} (hq : Lt s.P q) (hl : q.length = t + 1) :
    ∃ M, privityref25_Row s q = some M ∧ Sg s.P n t M (fun c => o s.P (q.getD c 0)) := by
  have hp := par.sup
  have hlt := hp.lt
  have h13 := par.n13
  have h3 := par.t3
  have h4 := par.n4
  refine ⟨tab n (t + 1) fun i k => if k = 0 then ev s.P q (i + 1) else 0, ?_, tab_Mat fun i hi j hj => ?_, fun i hi => ?_⟩
  · have hm : max 1 (s.N + 1).toNat = n + 1 := by rw [par.N]; omega
    have hm0 : max 0 s.N.toNat = n := by rw [par.N]; omega
    have e1 : privityref09_Shares s.P s.N q = some ((List.range n).map fun i => ev s.P q (i + 1)) := by
      unfold privityref09_Shares
      rw [hm, ckN_some (by omega), bS, Nat.add_sub_cancel, rgS_tab1 (fun i => ev s.P q (i + 1)) (fun j l hj hl => by
        have hu : toU ((j + 1 : Nat) : Int) = j + 1 := by unfold toU; omega
        unfold privityref09_Shares_L0
        rw [bS, hu, (ev_ok hp hq (by omega)).1, bS, ap1 (by omega) (by omega), bS]), bS]
    unfold privityref25_Row tab
    rw [e1, bS, hm0, ckN_some (by omega), bS, Nat.sub_zero, rgS_tab (fun i => (List.range (t + 1)).map fun k => if k = 0 then ev s.P q (i + 1) else 0) (fun j l hj hl => by
      have et : s.T + 1 = ((t + 1 : Nat) : Int) := by rw [par.T]; omega
      have e3 : (List.replicate (t + 1) 0).set 0 (ev s.P q (j + 1)) = (List.range (t + 1)).map fun k => if k = 0 then ev s.P q (j + 1) else 0 := by
        refine List.ext_getElem (by simp) fun i h1 h2 => ?_
        rw [List.getElem_set]
        by_cases g : i = 0
        · subst g; simp
        · rw [if_neg (fun h => g h.symm)]; simp [g]
      unfold privityref25_Row_L0
      rw [addI_some (by rw [par.T]; omega) (by rw [par.T]; omega), bS, et, mkO_some (by omega) (by omega) (by omega) (by omega), bS, Int.toNat_natCast, ix 0 (by simp; exact hj), bS, ix 0 (by simp), bS, bS, ap1 (by omega) (by omega), bS]
      congr 3
      rw [← e3]
      congr 1
      simp [List.getD_eq_getElem?_getD, hj]), bS]
  · show (if j = 0 then ev s.P q (i + 1) else 0) < s.P
    split
    · exact (ev_ok hp hq (by omega)).2.1
    · exact hp.pos
  · rw [tab_get hi (by omega), if_pos rfl, (ev_ok hp hq (by omega)).2.2, evl_co hl]
/-- the first words -/
theorem first_ok {p n m : Nat} {Ms : List (List (List Nat))} (hn : n ≤ 100) (h0 : 0 < Ms.length) (hl : Ms.length ≤ 100) (h : ∀ k, k < Ms.length → Mat p n (m + 1) (Ms.getD k [])) :
    triplestore_first Ms = some ((List.range n).map fun j => (List.range Ms.length).map fun k => ((Ms.getD k []).getD j []).getD 0 0) := by
  unfold triplestore_first
  rw [ix [] h0, bS, (h 0 h0).len, mkO_some (by omega) (by omega) (by omega) (by omega), bS, Int.toNat_natCast, Nat.sub_zero]
  obtain ⟨r, e, r1, r2⟩ := rgS_inv (body := fun k1 (st : (List (List Nat))) => triplestore_first_L0 Ms k1 st) (rem := Ms.length) (k := 0) (s := List.replicate n ([] : List Nat))
    (fun k r => r.length = n ∧ ∀ j, j < n → r.getD j [] = (List.range k).map fun k => ((Ms.getD k []).getD j []).getD 0 0) ⟨by simp, fun j hj => by simp [List.getD_eq_getElem?_getD, hj]⟩ (fun k r _ hk ⟨r1, r2⟩ => by
      have hkl : k < Ms.length := by omega
      have hM := h k hkl
      unfold triplestore_first_L0
      rw [ix [] hkl, bS, hM.len, Nat.sub_zero]
      obtain ⟨q, eq, q1, q2, q3⟩ := rgS_inv (body := fun k2 (st : (List (List Nat))) => triplestore_first_L1 (Ms.getD k []) k2 st) (rem := n) (k := 0) (s := r)
        (fun i q => q.length = n ∧ (∀ j, j < n → i ≤ j → q.getD j [] = r.getD j []) ∧ ∀ j, j < n → j < i → q.getD j [] = r.getD j [] ++ [((Ms.getD k []).getD j []).getD 0 0]) ⟨r1, fun _ _ _ => rfl, fun j _ hj => by omega⟩ (fun i q _ hi ⟨q1, q2, q3⟩ => by
          have hin : i < n := by omega
          have hrl := hM.row i hin
          have hql : (q.getD i []).length = k := by rw [q2 i hin (Nat.le_refl i), r2 i hin]; simp
          unfold triplestore_first_L1
          rw [ix [] (by rw [hM.len]; exact hin), bS, ix [] (by omega), bS, ix 0 (by omega), bS, ap1 (by omega) (by omega), bS, bS]
          refine ⟨_, rfl, by rw [List.length_set]; exact q1, fun j hj hij => ?_, fun j hj hji => ?_⟩
          · rw [getD_set (by omega), if_neg (by omega)]; exact q2 j hj (by omega)
          · rw [getD_set (by omega)]
            by_cases g : i = j
            · subst g
              rw [if_pos rfl, q2 i hin (Nat.le_refl i)]
            · rw [if_neg g]; exact q3 j hj (by omega))
      rw [Nat.zero_add] at q3
      rw [eq, bS]
      refine ⟨_, rfl, q1, fun j hj => ?_⟩
      rw [q3 j hj hj, r2 j hj, List.range_succ, List.map_append]; rfl)
  rw [Nat.zero_add] at r2
  rw [e, bS]
  congr 1
  refine List.ext_getElem (by simp [r1]) fun i h1 h2 => ?_
  have hi : i < n := by omega
  have := r2 i hi
  rw [List.getD_eq_getElem?_getD, List.getElem?_eq_getElem h1] at this
  simp only [Option.getD_some] at this
  rw [this]; simp
/-- a share of the shares opened -/
theorem first_get {n m j k : Nat} {Ms : List (List (List Nat))} (hj : j < n) (hk : k < m) : (((List.range n).map fun j => (List.range m).map fun k => ((Ms.getD k []).getD j []).getD 0 0).getD j []).getD k 0 = ((Ms.getD k []).getD j []).getD 0 0 := by
  simp [List.getD_eq_getElem?_getD, hj, hk]
section
variable {p : Nat} [NeZero p]
/-- coin times x minus y -/
theorem less_ok (hp : Sup p) {n t : Nat} {X Y coin : List (List Nat)} {gx gy : Nat → Fin p} {κ : Fin p} (hn : n ≤ 13) (ht : t ≤ 13) (hX : Sg p n t X gx) (hY : Sg p n t Y gy) (hc : coin.length = n) (h1 : ∀ j, j < n → (coin.getD j []).length = 1 ∧ (coin.getD j []).getD 0 0 < p ∧ o p ((coin.getD j []).getD 0 0) = κ) :
    ∃ M, triplestore_Verify_1 X Y p coin = some M ∧ Sg p n t M (fun c => κ * gx c - gy c) := by
  refine ⟨tab n (t + 1) fun j k => ((coin.getD j []).getD 0 0 * (X.getD j []).getD k 0 % p + (p - (Y.getD j []).getD k 0) % p) % p, ?_, tab_Mat fun i hi j hj => Nat.mod_lt _ hp.pos, fun i hi => ?_⟩
  · unfold triplestore_Verify_1 tab
    rw [hX.mat.len, Nat.sub_zero, rgS_tab (fun j => (List.range (t + 1)).map fun k => ((coin.getD j []).getD 0 0 * (X.getD j []).getD k 0 % p + (p - (Y.getD j []).getD k 0) % p) % p) (fun j l hj hl => by
      unfold triplestore_Verify_1_L0
      rw [hX.mat.some hj, bS, hX.mat.row j hj, Nat.sub_zero, rgS_tab (fun k => ((coin.getD j []).getD 0 0 * (X.getD j []).getD k 0 % p + (p - (Y.getD j []).getD k 0) % p) % p) (fun k l hk hl => by
        obtain ⟨c1, c2, _⟩ := h1 j hj
        unfold triplestore_Verify_1_L1
        rw [ix [] (by omega), bS, ix 0 (by omega), bS, rd hX.mat hj hk, bS, mul_ok hp c2 (hX.mat.lt j hj k hk), bS, hY.mat.some hj, bS, rd hY.mat hj hk, bS, sub_ok hp (Nat.mod_lt _ hp.pos) (hY.mat.lt j hj k hk), bS, ap1 (by omega) (by omega), bS]), bS, ap1 (by omega) (by omega), bS]), bS]
  · rw [tab_get hi (by omega), o_sub' (hY.mat.lt i hi 0 (by omega)), o_mod, o_mul, (h1 i hi).2.2, hX.val i hi, hY.val i hi, ← sm_mul]
    have e : ∀ a b : Fin p, a - b = a + (-1) * b := fun a b => by grind
    rw [e, ← sm_mul, ← sm_add]
    exact sm_congr fun c hc => by grind
theorem minus_ok (hp : Sup p) {n t : Nat} {X Y : List (List Nat)} {gx gy : Nat → Fin p} (hn : n ≤ 13) (ht : t ≤ 13) (hX : Sg p n t X gx) (hY : Sg p n t Y gy) :
    ∃ M, triplestore_minus p X Y = some M ∧ Sg p n t M (fun c => gx c - gy c) := by
  refine ⟨tab n (t + 1) fun j k => ((X.getD j []).getD k 0 + (p - (Y.getD j []).getD k 0) % p) % p, ?_, tab_Mat fun i hi j hj => Nat.mod_lt _ hp.pos, fun i hi => ?_⟩
  · unfold triplestore_minus tab
    rw [hX.mat.len, Nat.sub_zero, rgS_tab (fun j => (List.range (t + 1)).map fun k => ((X.getD j []).getD k 0 + (p - (Y.getD j []).getD k 0) % p) % p) (fun j l hj hl => by
      unfold triplestore_minus_L0
      rw [hX.mat.some hj, bS, hX.mat.row j hj, Nat.sub_zero, rgS_tab (fun k => ((X.getD j []).getD k 0 + (p - (Y.getD j []).getD k 0) % p) % p) (fun k l hk hl => by
        unfold triplestore_minus_L1
        rw [rd hX.mat hj hk, bS, hY.mat.some hj, bS, rd hY.mat hj hk, bS, sub_ok hp (hX.mat.lt j hj k hk) (hY.mat.lt j hj k hk), bS, ap1 (by omega) (by omega), bS]), bS, ap1 (by omega) (by omega), bS]), bS]
  · rw [tab_get hi (by omega), o_sub' (hY.mat.lt i hi 0 (by omega)), hX.val i hi, hY.val i hi]
    have e : ∀ a b : Fin p, a - b = a + (-1) * b := fun a b => by grind
    rw [e, ← sm_mul, ← sm_add]
    exact sm_congr fun c hc => by grind
/-- the last step: what is taken away -/
theorem last_ok (hp : Sup p) {n t : Nat} {L X Y Z : List (List Nat)} {gl gx gy : Nat → Fin p} {w : T_api_Scenario} (hw : w.S.P = p) {uv : (List (List Nat)) × (List (List Int)) × Int × (List (List T_api_Event))} {u v : Fin p} (hn : n ≤ 13) (ht : t ≤ 13) (hL : Sg p n t L gl) (hX : Sg p n t X gx) (hY : Sg p n t Y gy) (hc : uv.1.length = n)
    (h1 : ∀ j, j < n → (uv.1.getD j []).length = 2 ∧ (uv.1.getD j []).getD 0 0 < p ∧ (uv.1.getD j []).getD 1 0 < p ∧ o p ((uv.1.getD j []).getD 0 0) = u ∧ o p ((uv.1.getD j []).getD 1 0) = v) :
    ∃ M, rgS (fun k1 (st : (List (List Nat))) => triplestore_Verify_L0 ⟨X, Y, Z⟩ w uv k1 st) n 0 L = some M ∧ Sg p n t M (fun c => gl c - (u * gy c + v * gx c + (if c = 0 then u * v else 0))) := by
  obtain ⟨M, e, m1, m2, _⟩ := rgS_inv (body := fun k1 (st : (List (List Nat))) => triplestore_Verify_L0 ⟨X, Y, Z⟩ w uv k1 st) (rem := n) (k := 0) (s := L)
    (fun j l => Mat p n (t + 1) l ∧ (∀ i, i < j → i < n → o p ((l.getD i []).getD 0 0) = o p ((L.getD i []).getD 0 0) - (u * o p ((Y.getD i []).getD 0 0) + v * o p ((X.getD i []).getD 0 0) + u * v)) ∧ ∀ i, i < n → j ≤ i → l.getD i [] = L.getD i [])
    ⟨hL.mat, fun i hi => by omega, fun _ _ _ => rfl⟩ (fun j l _ hj ⟨m1, m2, m3⟩ => by
      have hjn : j < n := by omega
      obtain ⟨c1, c2, c3, c4, c5⟩ := h1 j hjn
      unfold triplestore_Verify_L0
      rw [ix [] (by omega), bS, ix 0 (by omega), bS, ix 0 (by omega), bS, m1.some hjn, bS, m1.row j hjn, ckN_some (by omega), bS, Nat.sub_zero]
      obtain ⟨q, eq, q1, q2, q3, _⟩ := rgS_inv (body := fun k2 (st : (List (List Nat))) => triplestore_Verify_L1 ⟨X, Y, Z⟩ w j ((uv.1.getD j []).getD 0 0) ((uv.1.getD j []).getD 1 0) k2 st) (rem := t + 1) (k := 0) (s := l)
        (fun k q => Mat p n (t + 1) q ∧ (∀ i, i < n → i ≠ j → q.getD i [] = l.getD i []) ∧ (0 < k → o p ((q.getD j []).getD 0 0) = o p ((L.getD j []).getD 0 0) - (u * o p ((Y.getD j []).getD 0 0) + v * o p ((X.getD j []).getD 0 0) + u * v)) ∧ (k = 0 → q.getD j [] = L.getD j []))
        ⟨m1, fun _ _ _ => rfl, fun h => by omega, fun _ => m3 j hjn (Nat.le_refl j)⟩ (fun k q _ hk ⟨q1, q2, q3, q4⟩ => by
          have hkt : k < t + 1 := by omega
          have hql : j < q.length := by rw [q1.len]; exact hjn
          have hqr : k < (q.getD j []).length := by rw [q1.row j hjn]; exact hkt
          have hm : ∀ a : Nat, a % p < p := fun a => Nat.mod_lt _ hp.pos
          have hlt := hp.lt
          obtain ⟨x, ex, x1, x2⟩ : ∃ x, (bif ((k : Nat) : Int) == (0 : Int) then field_Mul w.S.P ((uv.1.getD j []).getD 0 0) ((uv.1.getD j []).getD 1 0) >>= fun r14 => field_Add w.S.P (((uv.1.getD j []).getD 0 0 * (Y.getD j []).getD k 0 % p + (uv.1.getD j []).getD 1 0 * (X.getD j []).getD k 0 % p) % p) r14 >>= fun r15 => some r15 else some (((uv.1.getD j []).getD 0 0 * (Y.getD j []).getD k 0 % p + (uv.1.getD j []).getD 1 0 * (X.getD j []).getD k 0 % p) % p)) = some x ∧ x < p ∧ (k = 0 → o p x = u * o p ((Y.getD j []).getD 0 0) + v * o p ((X.getD j []).getD 0 0) + u * v) := by
            by_cases g : k = 0
            · subst g
              have a1 := hm (((uv.1.getD j []).getD 0 0 * (Y.getD j []).getD 0 0 % p + (uv.1.getD j []).getD 1 0 * (X.getD j []).getD 0 0 % p))
              have a2 := hm ((uv.1.getD j []).getD 0 0 * (uv.1.getD j []).getD 1 0)
              rw [eT (show ((0 : Nat) : Int) = (0 : Int) from rfl), cT, hw, mul_ok hp c2 c3, bS, add_ok hp (by omega), bS]
              refine ⟨_, rfl, hm _, fun _ => ?_⟩
              rw [o_mod, o_add, o_mod, o_add, o_mod, o_mod, o_mod, o_mul, o_mul, o_mul, c4, c5]
            · rw [eF (by omega), cF]
              exact ⟨_, rfl, hm _, fun h => absurd h g⟩
          have b1 := hm ((uv.1.getD j []).getD 0 0 * (Y.getD j []).getD k 0)
          have b2 := hm ((uv.1.getD j []).getD 1 0 * (X.getD j []).getD k 0)
          unfold triplestore_Verify_L1
          simp only
          rw [hY.mat.some hjn, bS, rd hY.mat hjn hkt, bS, hw, mul_ok hp c2 (hY.mat.lt j hjn k hkt), bS, hX.mat.some hjn, bS, rd hX.mat hjn hkt, bS, mul_ok hp c3 (hX.mat.lt j hjn k hkt), bS, add_ok hp (by omega), bS]
          rw [hw] at ex
          rw [ex, bS, q1.some hjn, bS, rd q1 hjn hkt, bS, sub_ok hp (q1.lt j hjn k hkt) x1, bS, bS, bS]
          refine ⟨_, rfl, q1.setRow hjn (by rw [List.length_set]; exact q1.row j hjn) (fun c hc => ?_), fun i hi hne => ?_, fun _ => ?_, fun h => by omega⟩
          · rw [getD_set hqr]; split
            · exact hm _
            · exact q1.lt j hjn c hc
          · rw [getD_set hql, if_neg (fun e => hne e.symm)]; exact q2 i hi hne
          · rw [getD_set hql, if_pos rfl, getD_set hqr]
            by_cases g : k = 0
            · subst g
              rw [if_pos rfl, o_sub' x1, x2 rfl, q4 rfl]
            · rw [if_neg g]; exact q3 (by omega))
      rw [Nat.zero_add] at q3
      rw [eq, bS]
      refine ⟨_, rfl, q1, fun i hi hin => ?_, fun i hi hji => ?_⟩
      · by_cases g : i = j
        · subst g; exact q3 (by omega)
        · rw [q2 i hin g]; exact m2 i (by omega) hin
      · rw [q2 i hi (by omega)]; exact m3 i hi (by omega))
  rw [Nat.zero_add] at m2
  refine ⟨M, e, m1, fun i hi => ?_⟩
  rw [m2 i hi hi, hL.val i hi, hX.val i hi, hY.val i hi]
  have e1 : sm (t + 1) (fun c => (gl c - (u * gy c + v * gx c + (if c = 0 then u * v else 0))) * o p (i + 1) ^ c) = sm (t + 1) (fun c => gl c * o p (i + 1) ^ c) + (-1) * (u * sm (t + 1) (fun c => gy c * o p (i + 1) ^ c) + v * sm (t + 1) (fun c => gx c * o p (i + 1) ^ c) + sm (t + 1) (fun c => (if c = 0 then u * v else 0) * o p (i + 1) ^ c)) := by
    rw [← sm_mul, ← sm_mul, ← sm_add, ← sm_add, ← sm_mul, ← sm_add]
    exact sm_congr fun c hc => by grind
  rw [e1, sm_one]; grind
end
end Pu
