/- Plain laws of the ledger of triples: handing out, over the printed plain functions. -/
import Derived.Test.YtclhpomlfadohaaDoorT1p
import Derived.Test.YtclhpomlfadohaaDoorWl
set_option linter.unusedVariables false
namespace Pu
open Gw Gl
theorem aw25 : privitylaw25_awake = some true := by decide +kernel
theorem rgO_go {R : Type} {body : Nat → Unit → Option (Out Unit R)} : ∀ {n k : Nat}, (∀ j, k ≤ j → j < k + n → body j () = some (.go ())) → rgO body n k () = some (.go ())
  | 0, _, _ => rfl
  | n + 1, k, h => by
    simp only [rgO, h k (Nat.le_refl k) (by omega)]
    exact rgO_go fun j h1 h2 => h j (by omega) (by omega)
theorem words_refl (a : List Nat) : privityref14_Words a a = some true := by
  unfold privityref14_Words
  simp only [bne_self_eq_false, cF]
  rw [rgO_go (fun j _ hj => by
    simp only [privityref14_Words_L0, List.getElem?_eq_getElem (show j < a.length by omega)]
    simp)]
  rfl
theorem lists_refl (a : List (List Nat)) : privityref14_Lists a a = some true := by
  unfold privityref14_Lists
  simp only [bne_self_eq_false, cF]
  rw [rgO_go (fun j _ hj => by
    simp only [privityref14_Lists_L0, List.getElem?_eq_getElem (show j < a.length by omega), bS, words_refl]
    simp)]
  rfl
theorem sameTriple_refl (a : T_api_Triple) : privityref22_SameTriple a a = some true := by
  unfold privityref22_SameTriple
  simp [lists_refl]
theorem sameList_refl (a : List T_api_Triple) : privityref22_SameList a a = some true := by
  unfold privityref22_SameList
  simp only [bne_self_eq_false, cF]
  rw [rgO_go (fun j _ hj => by
    simp only [privityref22_SameList_L0, List.getElem?_eq_getElem (show j < a.length by omega), bS, sameTriple_refl]
    simp)]
  rfl
/-- few: an answer; true says that there are at most twenty -/
theorem few_some (l : List T_api_Triple) : ∃ b, privitylaw25_few l = some b ∧ (b = true → l.length ≤ 20) := by
  unfold privitylaw25_few
  by_cases h : ((l.length : Nat) : Int) > 20
  · exact ⟨false, by simp [h], by simp⟩
  · have hd : decide (((l.length : Nat) : Int) > (20 : Int)) = false := decide_eq_false h
    simp only [hd, cF]
    obtain ⟨o, e, _⟩ := rgO_inv (body := fun k1 (st : Unit) => privitylaw25_few_L0 l k1) (fun _ _ => True) (fun _ => True) (rem := l.length - 0) (k := 0) (s := ()) trivial (fun j s _ hj _ => by
      simp only [privitylaw25_few_L0, List.getElem?_eq_getElem (show j < l.length by omega), bS]
      generalize decide (((l[j].A.length : Nat) : Int) > 6) = b1
      generalize decide (((l[j].B.length : Nat) : Int) > 6) = b2
      generalize decide (((l[j].C.length : Nat) : Int) > 6) = b3
      cases b1 <;> cases b2 <;> cases b3 <;> exact ⟨_, rfl, trivial⟩)
    rw [e]
    cases o with
    | go s => exact ⟨true, rfl, fun _ => by omega⟩
    | fin r => exact ⟨r, rfl, fun _ => by omega⟩
theorem left_some (l : T_api_Ledger) (hl : l.Made.length ≤ 20) (hu : -9223372036854775808 ≤ l.Used ∧ l.Used < 9223372036854775808) : triplestore_book_left ⟨l.Made, l.Used⟩ = some (if l.Used < 0 then -1 else (l.Made.length : Int) - l.Used) := by
  unfold triplestore_book_left
  by_cases h : l.Used < 0
  · simp [h]
  · simp only [h, decide_false, cF, if_false]
    rw [subI_some (by omega) (by omega)]
    rfl
theorem take_some (l : T_api_Ledger) (m : Int) (hl : l.Made.length ≤ 20) (hu : -9223372036854775808 ≤ l.Used ∧ l.Used < 9223372036854775808) :
    triplestore_Take l m = some (if m < 0 ∨ l.Used < 0 ∨ m > (l.Made.length : Int) - l.Used then ([], l, 12) else ((l.Made.drop l.Used.toNat).take m.toNat, ⟨l.Made, l.Used + m⟩, 0)) := by
  unfold triplestore_Take
  by_cases h : m < 0
  · simp [h]
  · simp only [h, decide_false, cF, left_some l hl hu, bS, false_or]
    by_cases h1 : l.Used < 0
    · have : decide (m > -1) = true := decide_eq_true (by omega)
      simp [h1, this]
    · simp only [h1, if_false, false_or]
      by_cases h2 : m > (l.Made.length : Int) - l.Used
      · simp [h2]
      · simp only [h2, decide_false, cF, if_false]
        rw [addI_some (by omega) (by omega)]
        simp only [bS]
        rw [cutO_some (by omega) (by omega) (by omega)]
        simp only [bS]
        have : (l.Used + m).toNat - l.Used.toNat = m.toNat := by omega
        rw [this]; rfl
theorem refTake_some (l : T_api_Ledger) (m : Int) (hl : l.Made.length ≤ 20) (hu : -9223372036854775808 ≤ l.Used ∧ l.Used < 9223372036854775808) :
    privityref25_Take l m = some (if m < 0 ∨ l.Used < 0 ∨ m > (l.Made.length : Int) - l.Used then ([], l, 12) else ((l.Made.drop l.Used.toNat).take m.toNat, ⟨l.Made, l.Used + m⟩, 0)) := by
  unfold privityref25_Take
  by_cases h : m < 0
  · simp [h]
  · by_cases h1 : l.Used < 0
    · simp [h, h1]
    · by_cases h3 : l.Used > (l.Made.length : Int)
      · have : m > (l.Made.length : Int) - l.Used := by omega
        simp [h, h1, h3, this]
      · simp only [h, h1, h3, decide_false, cF, false_or]
        rw [subI_some (by omega) (by omega)]
        simp only [bS]
        by_cases h2 : m > (l.Made.length : Int) - l.Used
        · simp [h2]
        · simp only [h2, decide_false, cF, if_false]
          rw [addI_some (by omega) (by omega)]
          simp only [bS]
          rw [cutO_some (by omega) (by omega) (by omega)]
          simp only [bS]
          have : (l.Used + m).toNat - l.Used.toNat = m.toNat := by omega
          rw [this]; rfl
theorem law_TakeMatchesReference (l : T_api_Ledger) (m : Int) (hu : -9223372036854775808 ≤ l.Used ∧ l.Used < 9223372036854775808) : privitylaw25_TriplestoreTakeMatchesReference l m = some true := by
  unfold privitylaw25_TriplestoreTakeMatchesReference
  simp only [aw25, bS, nT, cF]
  obtain ⟨b, e, hb⟩ := few_some l.Made
  rw [e]
  cases b with
  | false => rfl
  | true =>
    have hl := hb rfl
    simp only [bS, nT, cF, take_some l m hl hu, refTake_some l m hl hu, sameList_refl]
    simp
theorem toI_u8 {n : Nat} (h : n < 256) : toI ((n : Nat) : Int) = (n : Int) := by unfold toI; omega
theorem new_some (l : List T_api_Triple) : triplestore_New l = some ⟨l, 0⟩ := rfl
theorem law_TakeIsAdditive (made : List T_api_Triple) (a b : Nat) (ha : a < 256) (hb : b < 256) : privitylaw25_TriplestoreTakeIsAdditive made a b = some true := by
  unfold privitylaw25_TriplestoreTakeIsAdditive
  simp only [aw25, bS, nT, cF]
  obtain ⟨c, e, hc⟩ := few_some made
  rw [e]
  cases c with
  | false => rfl
  | true =>
    have hl := hc rfl
    simp only [bS, nT, cF, toI_u8 ha, toI_u8 hb]
    rw [addI_some (by omega) (by omega)]
    simp only [bS]
    by_cases g : (a : Int) + b > (made.length : Int)
    · simp [g]
    · simp only [g, decide_false, cF, new_some, bS]
      have t1 := take_some ⟨made, 0⟩ a hl (by constructor <;> simp)
      rw [if_neg (by simp; omega)] at t1
      have t2 := take_some ⟨made, 0 + a⟩ b hl (by constructor <;> simp <;> omega)
      rw [if_neg (by simp; omega)] at t2
      have t3 := take_some ⟨made, 0⟩ (a + b) hl (by constructor <;> simp)
      rw [if_neg (by simp; omega)] at t3
      simp only [t1, bS, t2, t3]
      have hh : (0 : Int) + a + b == 0 + (a + b) := by simp <;> omega
      simp only [beq_self_eq_true, cT]
      rw [show ((0 : Int) + a + b == 0 + (a + b)) = true from hh]
      simp only [cT]
      have l1 : (List.take ((a : Int).toNat) (List.drop ((0 : Int).toNat) made)) = made.take a := by simp
      have l2 : (List.take ((b : Int).toNat) (List.drop (((0 : Int) + a).toNat) made)) = (made.drop a).take b := by simp
      have l3 : (List.take (((a : Int) + b).toNat) (List.drop ((0 : Int).toNat) made)) = made.take a ++ (made.drop a).take b := by
        have : ((a : Int) + b).toNat = a + b := by omega
        rw [this]; simp [List.take_add]
      rw [l1, l2, l3, appO_some (by simp <;> omega) (by simp <;> omega)]
      simp only [bS, List.nil_append]
      rw [appO_some (by simp <;> omega) (by simp <;> omega)]
      simp only [bS, sameList_refl]
theorem law_HandsOutOnce (made : List T_api_Triple) (goes : List Nat) (hg : ∀ g ∈ goes, g < 256) : privitylaw25_TriplestoreHandsOutOnce made goes = some true := by
  unfold privitylaw25_TriplestoreHandsOutOnce
  simp only [aw25, bS, nT, cF]
  obtain ⟨c, e, hc⟩ := few_some made
  rw [e]
  cases c with
  | false => rfl
  | true =>
    have hl := hc rfl
    simp only [bS, nT, cF]
    by_cases g : ((goes.length : Nat) : Int) > 30
    · simp [g]
    · simp only [g, decide_false, cF, new_some, bS]
      obtain ⟨o, eo, ho⟩ := rgO_inv (body := fun k1 (st : (List T_api_Triple) × Int × (List T_api_Triple)) => privitylaw25_TriplestoreHandsOutOnce_L0 made goes k1 st.1 st.2.1 st.2.2)
        (fun _ st => st.1 = made ∧ ∃ n : Nat, st.2.1 = n ∧ n ≤ made.length ∧ st.2.2 = made.take n) (fun _ => False) (rem := goes.length - 0) (k := 0) (s := (made, 0, [])) ⟨rfl, 0, rfl, by omega, by simp⟩ (fun j st _ hj ⟨h1, n, h2, h3, h4⟩ => by
          obtain ⟨m, u, al⟩ := st
          simp only at h1 h2 h4
          subst h1; subst h2; subst h4
          have hm := hg goes[j] (List.getElem_mem (by omega))
          simp only [privitylaw25_TriplestoreHandsOutOnce_L0, List.getElem?_eq_getElem (show j < goes.length by omega), bS, toI_u8 hm]
          generalize goes[j] = q at hm
          have t1 := take_some ⟨m, n⟩ q hl (by constructor <;> simp <;> omega)
          simp only [t1, bS]
          have hlen : (List.take n m).length = n := by simp; omega
          rw [hlen, addI_some (by omega) (by omega)]
          simp only [bS]
          by_cases c : (n : Int) + q ≤ (m.length : Int)
          · have hn : ¬ ((q : Int) < 0 ∨ (n : Int) < 0 ∨ (q : Int) > (m.length : Int) - n) := by omega
            simp only [if_neg hn, c, decide_true, beq_self_eq_true, bne_self_eq_false, cF]
            rw [appO_some (by simp <;> omega) (by simp <;> omega)]
            refine ⟨_, rfl, rfl, n + q, by simp, by omega, ?_⟩
            simp [List.take_add]
          · have hn : ((q : Int) < 0 ∨ (n : Int) < 0 ∨ (q : Int) > (m.length : Int) - n) := by omega
            simp only [if_pos hn, c, decide_false]
            rw [appO_some (by simp <;> omega) (by simp <;> omega)]
            refine ⟨_, rfl, rfl, n, rfl, h3, by simp⟩)
      rw [eo]
      cases o with
      | fin r => exact ho.elim
      | go st =>
        obtain ⟨m, u, al⟩ := st
        obtain ⟨h1, n, h2, h3, h4⟩ := ho
        simp only at h1 h2 h4
        subst h1; subst h2; subst h4
        have hlen : (List.take n m).length = n := by simp; omega
        simp only [bS, oG, hlen]
        have : decide ((n : Int) ≤ (m.length : Int)) = true := decide_eq_true (by omega)
        simp only [this, cT]
        rw [cutO_some (by omega) (by omega) (by omega)]
        simp only [bS]
        have l1 : List.take ((n : Int).toNat - (0 : Int).toNat) (List.drop ((0 : Int).toNat) m) = m.take n := by simp
        rw [l1, sameList_refl]
        simp
end Pu
