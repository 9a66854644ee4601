/- The plain law of CompactWrites: what the document's Write tells is what compact.Write tells. -/
import Derived.Test.YteflphhdafhapaaWks
import Derived.Test.YteflphhdafhapaaRefB
namespace Go.Proofs.Yteflphhdafhapaa.Rng
open Go.RowKit Go.Shelf Go.Proofs.YteflphhdafhapaaW.PrintWords Go.Proofs.YteflphhdafhapaaW.PrintMore Go.Proofs.YteflphhdafhapaaW.PrintLast
open Go.Proofs.Yteflphhdafhapaa.Ref

theorem w64 (x : Int) (h0 : 0 ≤ x) (h1 : x < 9223372036854775808) : wrap64 x = x := by unfold wrap64; omega
theorem rd50 (l : List Sg) (i : Nat) (h : i < l.length) : rd_T50 (l.map to50) (i : Int) = to50 (l[i]?.getD zSg) := by
  unfold rd_T50
  rw [Int.toNat_natCast, List.getD_eq_getElem?_getD, List.getElem?_map, List.getElem?_eq_getElem h]
  rfl
theorem rd45 (l : List Sg) (i : Nat) (h : i < l.length) : rd_T45 (l.map to45) (i : Int) = to45 (l[i]?.getD zSg) := by
  unfold rd_T45
  rw [Int.toNat_natCast, List.getD_eq_getElem?_getD, List.getElem?_map, List.getElem?_eq_getElem h]
  rfl
theorem numL_take (n : Int) (i : Nat) : numL n (i + 1) = numL n i ++ [dig n i] := by
  unfold numL
  rw [List.range_succ, List.map_append]
  rfl
theorem ref_num (a : Int) (size : Nat) (hs : size ≤ 7) : ∀ (m i : Nat), i + m = size → ∀ k, m + 1 ≤ k → campanileref23_number.l0 k a (size : Int) (numL a i) (i : Int) = some (numL a size)
  | 0, i, hi, k, hk => by
    obtain ⟨k', rfl⟩ : ∃ k', k = k' + 1 := ⟨k - 1, by omega⟩
    obtain rfl : i = size := by omega
    rw [campanileref23_number.l0, if_neg (by omega)]
  | m + 1, i, hi, k, hk => by
    obtain ⟨k', rfl⟩ : ∃ k', k = k' + 1 := ⟨k - 1, by omega⟩
    rw [campanileref23_number.l0, if_pos (by omega), w64 (8 * (i : Int)) (by omega) (by omega), if_pos (by omega), if_pos (by rw [numL_length]; omega), w64 ((i : Int) + 1) (by omega) (by omega)]
    have h := ref_num a size hs m (i + 1) (by omega) k' (by omega)
    rw [numL_take] at h
    rw [show ((i : Int) + 1) = ((i + 1 : Nat) : Int) by omega, show (shr .i64 a (8 * (i : Int))) % 256 = dig a i by rw [dig, shr, Nat.min_eq_left (by show (8 * (i : Int)).toNat ≤ 64; omega), show (8 * (i : Int)).toNat = 8 * i by omega]]
    exact h
theorem ref_number (a : Int) (size : Nat) (hs : size ≤ 7) (k : Nat) (hk : size + 1 ≤ k) : campanileref23_number.f k a (size : Int) = some (numL a size) := by
  unfold campanileref23_number.f
  exact ref_num a size hs size 0 (by omega) k hk

/-- Setting j has too many bytes. -/
def big (l : List Sg) (j : Nat) : Prop := 4096 < bLen l j
def sumB (l : List Sg) (k : Nat) : Nat := (l.take k).foldl (fun n x => n + 1 + x.2.length) 0
theorem wLen_bound (l : List Sg) : ∀ k, k ≤ l.length → wLen l k ≤ 4 + 7 * sumB l k
  | 0, _ => by simp [wLen, wK, numL_length, sumB]
  | k + 1, h => by
    have ih := wLen_bound l k (by omega)
    have hs : sumB l (k + 1) = sumB l k + 1 + (l[k]?.getD zSg).2.length := by
      unfold sumB
      rw [List.take_add_one, List.getElem?_eq_getElem (by omega : k < l.length), List.foldl_append]
      rfl
    unfold wLen at ih ⊢
    rw [wK_succ l k (by omega), List.length_append, wOne_length, hs]
    omega
theorem sumB_mono (l : List Sg) (k : Nat) (h : k < l.length) : sumB l (k + 1) = sumB l k + 1 + bLen l k := by
  unfold sumB bLen
  rw [List.take_add_one, List.getElem?_eq_getElem (by omega : k < l.length), List.foldl_append]
  rfl
theorem sumB_le (l : List Sg) : ∀ m k, k + m = l.length → sumB l k + m ≤ sumB l l.length
  | 0, k, h => by rw [← h]; exact Nat.le_refl _
  | m + 1, k, h => by have := sumB_le l m (k + 1) (by omega); rw [sumB_mono l k (by omega)] at this; omega

theorem ref_write_at (l : List Sg) (hs : sumB l l.length ≤ 6000) : ∀ m i, i + m = l.length → ∀ k, 2 * m + 20 ≤ k → (∀ j, j < i → ¬ big l j) →
    ((∃ j, j < l.length ∧ big l j) → campanileref23_Write.l0 k (l.map to50) (wK l i) (i : Int) = some ([], 3)) ∧
    ((∀ j, j < l.length → ¬ big l j) → campanileref23_Write.l0 k (l.map to50) (wK l i) (i : Int) = some (wK l l.length, 0))
  | 0, i, hi, k, hk, hno => by
    obtain ⟨k', rfl⟩ : ∃ k', k = k' + 1 := ⟨k - 1, by omega⟩
    obtain rfl : i = l.length := by omega
    have hw : (wK l l.length).length ≤ 4 + 7 * sumB l l.length := wLen_bound l l.length (Nat.le_refl _)
    refine ⟨fun ⟨j, hj, hb⟩ => absurd hb (hno j hj), fun _ => ?_⟩
    rw [campanileref23_Write.l0, List.length_map, if_neg (by omega), if_neg (by omega)]
  | m + 1, i, hi, k, hk, hno => by
    obtain ⟨k', rfl⟩ : ∃ k', k = k' + 1 + 1 := ⟨k - 2, by omega⟩
    have hil : i < l.length := by omega
    have hll := sumB_le l l.length 0 (by omega)
    have hw := wLen_bound l i (by omega)
    have hsm := sumB_le l m (i + 1) (by omega)
    rw [sumB_mono l i hil] at hsm
    unfold wLen at hw
    have hrd := rd50 l i hil
    have hlen : ((to50 (l[i]?.getD zSg)).f1).length = bLen l i := rfl
    rw [campanileref23_Write.l0, List.length_map, if_pos (by omega), if_pos (by omega), hrd, hlen]
    by_cases hb : big l i
    · have hb' := hb
      unfold big at hb'
      rw [if_pos (by omega), campanileref23_Write.j1, if_pos rfl]
      exact ⟨fun _ => rfl, fun h => absurd hb (h i hil)⟩
    · have hb' := hb
      unfold big at hb'
      have ih := ref_write_at l hs m (i + 1) (by omega) k' (by omega) (fun j hj => by
        rcases Nat.lt_or_eq_of_le (Nat.le_of_lt_succ hj) with h | rfl
        · exact hno j h
        · exact hb)
      have hstep : campanileref23_Write.j1 (k' + 1) (l.map to50) (wK l i) (i : Int) (decide (((wK l i).length : Int) > 262144)) = campanileref23_Write.l0 k' (l.map to50) (wK l (i + 1)) ((i + 1 : Nat) : Int) := by
        have e1 : wrap64 ((to50 (l[i]?.getD zSg)).f0.f0) = IntKind.i64.wrap (l[i]?.getD zSg).1.1 := (i64_w _).symm
        have e2 : (to50 (l[i]?.getD zSg)).f0.f1 = (l[i]?.getD zSg).1.2 := rfl
        have e3 : (to50 (l[i]?.getD zSg)).f1 = (l[i]?.getD zSg).2 := rfl
        have e4 : (l[i]?.getD zSg).2.length = bLen l i := rfl
        rw [campanileref23_Write.j1, decide_eq_false (by omega), if_neg (by decide), if_pos (by omega), List.length_map, if_pos (by omega), hrd, e1, show (2 : Int) = ((2 : Nat) : Int) from rfl, ref_number _ 2 (by omega) k' (by omega), e2, e3,
          show (4 : Int) = ((4 : Nat) : Int) from rfl, ref_number _ 4 (by omega) k' (by omega)]
        simp only [Option.bind_some]
        rw [if_pos (by rw [numL_length]; omega), if_pos (by rw [List.length_append, numL_length]; omega), if_pos (by rw [List.length_append, List.length_append, numL_length, numL_length, List.length_singleton]; omega),
          if_pos (by rw [List.length_append, List.length_append, List.length_append, numL_length, numL_length, List.length_singleton, e4]; omega), w64 ((i : Int) + 1) (by omega) (by omega), wK_succ l i hil, wOne]
        simp only [List.append_assoc]
        rfl
      rw [if_neg (by omega), hstep]
      exact ih
/-- What Write tells, in plain words. -/
def wTold (l : List Sg) (r1 : List Int) (r2 : Int) : Prop := ((∃ j, j < l.length ∧ big l j) ∧ r1 = [] ∧ r2 = 3) ∨ ((∀ j, j < l.length → ¬ big l j) ∧ r1 = wK l l.length ∧ r2 = 0)
theorem ref_write (l : List Sg) (hs : sumB l l.length ≤ 6000) : ∃ k r1 r2, campanileref23_Write.f k (l.map to50) = some (r1, r2) ∧ wTold l r1 r2 := by
  have h := ref_write_at l hs l.length 0 (by omega) (2 * l.length + 20) (Nat.le_refl _) (fun j hj => by omega)
  have hf : campanileref23_Write.f (2 * l.length + 20) (l.map to50) = campanileref23_Write.l0 (2 * l.length + 20) (l.map to50) (wK l 0) 0 := by
    unfold campanileref23_Write.f
    rw [List.length_map, show (4 : Int) = ((4 : Nat) : Int) from rfl, ref_number _ 4 (by omega) _ (by omega), Option.bind_some]
    simp [wK]
  by_cases hb : ∃ j, j < l.length ∧ big l j
  · exact ⟨_, [], 3, hf.trans (h.1 hb), .inl ⟨hb, rfl, rfl⟩⟩
  · have hb' : ∀ j, j < l.length → ¬ big l j := fun j hj hbj => hb ⟨j, hj, hbj⟩
    exact ⟨_, _, 0, hf.trans (h.2 hb'), .inr ⟨hb', rfl, rfl⟩⟩
theorem told_of_write {l : List Sg} (hs : sumB l l.length ≤ 6000) {r1 : List Int} {r2 : Int} (h : ((∃ k, k < l.length ∧ wBad l k) ∧ r1 = [] ∧ r2 = 3) ∨ ((∀ k, k < l.length → ¬ wBad l k) ∧ r1 = wK l l.length ∧ r2 = 0)) : wTold l r1 r2 := by
  have hbig : ∀ k, k < l.length → wBad l k → big l k := by
    rintro k hk (h | h)
    · exact h
    · have h1 := wLen_bound l k (by omega)
      have h2 := sumB_le l (l.length - (k + 1)) (k + 1) (by omega)
      rw [sumB_mono l k hk] at h2
      omega
  rcases h with ⟨⟨k, hk, hb⟩, h1, h2⟩ | ⟨hg, h1, h2⟩
  · exact .inl ⟨⟨k, hk, hbig k hk hb⟩, h1, h2⟩
  · exact .inr ⟨fun j hj hb => hg j hj (.inl hb), h1, h2⟩
theorem told_one {l : List Sg} {r1 s1 : List Int} {r2 s2 : Int} (h : wTold l r1 r2) (k : wTold l s1 s2) : r1 = s1 ∧ r2 = s2 := by
  rcases h with ⟨⟨j, hj, hb⟩, h1, h2⟩ | ⟨hg, h1, h2⟩ <;> rcases k with ⟨⟨j', hj', hb'⟩, k1, k2⟩ | ⟨kg, k1, k2⟩
  · exact ⟨h1.trans k1.symm, h2.trans k2.symm⟩
  · exact absurd hb (kg j hj)
  · exact absurd hb' (hg j' hj')
  · exact ⟨h1.trans k1.symm, h2.trans k2.symm⟩
end Go.Proofs.Yteflphhdafhapaa.Rng
