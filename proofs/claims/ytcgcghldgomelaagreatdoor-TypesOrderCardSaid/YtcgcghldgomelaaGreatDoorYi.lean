/- The order of values, plainly. -/
import Derived.Test.YtcgcghldgomelaaGreatDoorYh
namespace Go.Proofs.YtcgcghldgomelaaGreatDoor.Mp
open Go.RowKit Go.Proofs.YtcgcghldgomelaaGreatDoor.Rng

theorem num_inj : ∀ {a b : List Int}, Byt a → Byt b → a.length = b.length → num a = num b → a = b
  | [], [], _, _, _, _ => rfl
  | [], _ :: _, _, _, h, _ => by simp at h
  | _ :: _, [], _, _, h, _ => by simp at h
  | x :: r, y :: s, ha, hb, h, hn => by
    have h1 := ha x (by simp)
    have h2 := hb y (by simp)
    simp only [num] at hn
    have e1 : x = y := by omega
    have e2 : num r = num s := by omega
    rw [e1, num_inj (fun z hz => ha z (by simp [hz])) (fun z hz => hb z (by simp [hz])) (by simpa using h) e2]
theorem key_inj {t : Int} {a b : List Int} (ha : Byt a) (hb : Byt b) (h1 : ordR t a) (h2 : ordR t b) (h : keyR t a = keyR t b) : a = b := by
  have l1 := (plainC_0 h1.1).2.2.1 h1.2.1
  have l2 := (plainC_0 h2.1).2.2.1 h2.2.1
  have hl : a.length = b.length := by omega
  refine num_inj ha hb hl ?_
  have n1 := num_nonneg ha
  have n2 := num_nonneg hb
  have m1 := num_lt ha
  have m2 := num_lt hb
  unfold keyR at h
  by_cases k2 : knd t = 2
  · rw [if_pos k2, if_pos k2] at h
    unfold wholeC at h
    rw [hl] at h m1
    generalize (256 : Int) ^ b.length = P at *
    have hw : (if 2 * num a < P then num a else num a - P) = (if 2 * num b < P then num b else num b - P) := by omega
    split at hw <;> split at hw <;> omega
  · rw [if_neg k2, if_neg k2] at h
    by_cases k4 : knd t = 4
    · rw [if_pos k4, if_pos k4] at h
      rcases knd_4 k4 with ⟨_, hs⟩ | ⟨_, hs⟩
      · have e1 : a.length = 4 := by omega
        have e2 : b.length = 4 := by omega
        have r1 := num_4 ha e1
        have r2 := num_4 hb e2
        rw [if_pos e1, if_pos e2] at h
        unfold kyS at h
        split at h <;> split at h <;> omega
      · have e1 : a.length = 8 := by omega
        have e2 : b.length = 8 := by omega
        have r1 := num_8 ha e1
        have r2 := num_8 hb e2
        rw [if_neg (by omega), if_neg (by omega)] at h
        unfold kyD at h
        split at h <;> split at h <;> omega
    · rw [if_neg k4, if_neg k4] at h
      by_cases k5 : knd t = 5
      · rw [if_pos k5, if_pos k5] at h
        have hs := (siz_of t).2.2.2.2.1 k5
        have q1 := num_4 (byt_take ha 4) (by rw [List.length_take]; omega)
        have q2 := num_4 (byt_take hb 4) (by rw [List.length_take]; omega)
        have g1 : num (a.take 4) = num (b.take 4) := by omega
        have g2 : num (a.drop 4) = num (b.drop 4) := by omega
        have f1 := num_inj (byt_take ha 4) (byt_take hb 4) (by rw [List.length_take, List.length_take]; omega) g1
        have f2 := num_inj (byt_drop ha 4) (byt_drop hb 4) (by rw [List.length_drop, List.length_drop]; omega) g2
        rw [← List.take_append_drop 4 a, ← List.take_append_drop 4 b, f1, f2]
      · rw [if_neg k5, if_neg k5] at h
        exact h
theorem cmp3_zero {x y : Int} : cmp3 x y = 0 ↔ x = y := by
  unfold cmp3
  split
  · constructor <;> intro h <;> omega
  · split <;> constructor <;> intro h <;> omega
theorem cmp3_turn (x y : Int) : cmp3 x y = -cmp3 y x := by
  unfold cmp3
  by_cases h1 : x < y
  · rw [if_pos h1, if_neg (by omega), if_pos h1]
  · by_cases h2 : y < x
    · rw [if_neg h1, if_pos h2, if_pos h2]
      rfl
    · rw [if_neg h1, if_neg h2, if_neg h2, if_neg h1]
      rfl
theorem cmp3_le (x y : Int) : -1 ≤ cmp3 x y ∧ cmp3 x y ≤ 1 := by
  unfold cmp3
  split
  · omega
  · split <;> omega
/-- The plain law of the order. -/
theorem order_law (t : Int) {a b c : List Int} (ha : Byt a) (hb : Byt b) (hc : Byt c) :
    ((cmpC t a b).2 = (cmpC t b a).2 ∧ (cmpC t a b).1 = -(cmpC t b a).1 ∧ (-1 ≤ (cmpC t b a).1 ∧ (cmpC t b a).1 ≤ 1)) ∧ ((cmpC t a b).2 = true → ((cmpC t a b).1 = 0 ↔ a = b)) ∧
    ((cmpC t a b).2 = true → (cmpC t b c).2 = true → (cmpC t a c).2 = true ∧ ((cmpC t a b).1 ≤ 0 → (cmpC t b c).1 ≤ 0 → (cmpC t a c).1 ≤ 0) ∧ ((cmpC t a b).1 < 0 → (cmpC t b c).1 < 0 → (cmpC t a c).1 < 0)) := by
  rw [cmp_R t ha hb, cmp_R t hb ha, cmp_R t hb hc, cmp_R t ha hc]
  have hno : ∀ {x y : List Int} (r : Int × Bool), ¬ (ordR t x ∧ ordR t y) → (if ordR t x ∧ ordR t y then r else (0, false)) = (0, false) := fun r h => if_neg h
  by_cases oa : ordR t a
  · by_cases ob : ordR t b
    · have e1 : (if ordR t a ∧ ordR t b then (cmp3 (keyR t a) (keyR t b), true) else (0, false)) = (cmp3 (keyR t a) (keyR t b), true) := if_pos ⟨oa, ob⟩
      have e2 : (if ordR t b ∧ ordR t a then (cmp3 (keyR t b) (keyR t a), true) else (0, false)) = (cmp3 (keyR t b) (keyR t a), true) := if_pos ⟨ob, oa⟩
      rw [e1, e2]
      refine ⟨⟨rfl, cmp3_turn _ _, cmp3_le _ _⟩, fun _ => ⟨fun h => key_inj ha hb oa ob (cmp3_zero.1 h), fun h => by subst h; exact cmp3_zero.2 rfl⟩, fun _ h => ?_⟩
      by_cases oc : ordR t c
      · have e3 : (if ordR t b ∧ ordR t c then (cmp3 (keyR t b) (keyR t c), true) else (0, false)) = (cmp3 (keyR t b) (keyR t c), true) := if_pos ⟨ob, oc⟩
        have e4 : (if ordR t a ∧ ordR t c then (cmp3 (keyR t a) (keyR t c), true) else (0, false)) = (cmp3 (keyR t a) (keyR t c), true) := if_pos ⟨oa, oc⟩
        rw [e3, e4]
        have p1 := cmp3_pos (x := keyR t a) (y := keyR t b)
        have p2 := cmp3_pos (x := keyR t b) (y := keyR t c)
        have p3 := cmp3_pos (x := keyR t a) (y := keyR t c)
        have q1 := cmp3_neg (x := keyR t a) (y := keyR t b)
        have q2 := cmp3_neg (x := keyR t b) (y := keyR t c)
        have q3 := cmp3_neg (x := keyR t a) (y := keyR t c)
        refine ⟨rfl, fun h1 h2 => ?_, fun h1 h2 => ?_⟩
        · refine Int.not_lt.1 fun h3 => ?_
          have h4 := p3.1 h3
          have h5 : ¬ keyR t b < keyR t a := fun h => absurd (p1.2 h) (Int.not_lt.2 h1)
          have h6 : ¬ keyR t c < keyR t b := fun h => absurd (p2.2 h) (Int.not_lt.2 h2)
          omega
        · have h4 := q1.1 h1
          have h5 := q2.1 h2
          exact q3.2 (by omega)
      · rw [hno _ (fun h => oc h.2)] at h
        cases h
    · rw [hno _ (fun h => ob h.2), hno _ (show ¬ (ordR t b ∧ ordR t a) from fun h => ob h.1)]
      exact ⟨⟨rfl, rfl, by decide, by decide⟩, fun h => (by cases h), fun h => (by cases h)⟩
  · rw [hno _ (show ¬ (ordR t a ∧ ordR t b) from fun h => oa h.1), hno _ (show ¬ (ordR t b ∧ ordR t a) from fun h => oa h.2)]
    exact ⟨⟨rfl, rfl, by decide, by decide⟩, fun h => (by cases h), fun h => (by cases h)⟩
theorem strOf_inj {a b : List Int} (ha : Byt a) (hb : Byt b) (h : strOfNums a = strOfNums b) : a = b := by
  have h1 : (strOfNums a).data.toList = (strOfNums b).data.toList := by rw [h]
  rw [strOfNums_data, strOfNums_data] at h1
  have hl : a.length = b.length := by simpa using congrArg List.length h1
  apply List.ext_getElem hl
  intro j h2 h3
  have h4 := congrArg (·[j]?) h1
  simp only [List.getElem?_map, List.getElem?_eq_getElem h2, List.getElem?_eq_getElem h3, Option.map_some, Option.some.injEq] at h4
  have h5 := ha a[j] (List.getElem_mem h2)
  have h6 := hb b[j] (List.getElem_mem h3)
  have h7 := congrArg UInt8.toNat h4
  rw [UInt8.toNat_ofNat', UInt8.toNat_ofNat'] at h7
  omega
end Go.Proofs.YtcgcghldgomelaaGreatDoor.Mp
