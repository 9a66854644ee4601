/- The plain law of CompactReads: what the document's Parse tells is what compact.Parse tells. -/
import Derived.Test.YteflphhdafhapaaLw2
import Derived.Test.YteflphhdafhapaaRefC
namespace Go.Proofs.Yteflphhdafhapaa.Rng
open Go.RowKit Go.Shelf Go.Proofs.YteflphhdafhapaaW.PrintWords Go.Proofs.YteflphhdafhapaaW.PrintMore Go.Proofs.YteflphhdafhapaaW.PrintLast
open Go.Proofs.Yteflphhdafhapaa.Ref

theorem w64s (x : Int) (h0 : -9223372036854775808 ≤ x) (h1 : x < 9223372036854775808) : wrap64 x = x := by unfold wrap64; omega
theorem ref_val_at (zs : List Int) (hB : Bytes zs) (hl : zs.length ≤ 7) : ∀ m k, m ≤ zs.length → m + 1 ≤ k → campanileref23_value.l0 k zs (val (zs.drop m)) ((m : Int) - 1) = some (val zs)
  | 0, k, _, hk => by
    obtain ⟨k', rfl⟩ : ∃ k', k = k' + 1 := ⟨k - 1, by omega⟩
    rw [campanileref23_value.l0, if_neg (by omega), List.drop_zero]
  | m + 1, k, hm, hk => by
    obtain ⟨k', rfl⟩ : ∃ k', k = k' + 1 := ⟨k - 1, by omega⟩
    have ih := ref_val_at zs hB hl m k' (by omega) (by omega)
    have hb := val_bound _ (hB.drop_ (m + 1))
    have hx := hB _ (List.getElem_mem (show m < zs.length by omega))
    have hp : 256 ^ (zs.drop (m + 1)).length ≤ 256 ^ 6 := Nat.pow_le_pow_right (by decide) (by rw [List.length_drop]; omega)
    have h6 : 256 ^ 6 = 281474976710656 := by decide
    rw [campanileref23_value.l0, if_pos (by omega), if_pos (by omega), if_pos (by omega), show ((m + 1 : Nat) : Int) - 1 = (m : Int) by omega, w64s ((m : Int) - 1) (by omega) (by omega)]
    have hr : rd zs (m : Int) = zs[m] := by
      unfold rd
      rw [Int.toNat_natCast, List.getD_eq_getElem?_getD, List.getElem?_eq_getElem (by omega)]
      rfl
    have hs : bits .or .i64 (wrap64 (val (zs.drop (m + 1)) * 256)) (wrap64 (rd zs (m : Int))) = val (zs.drop m) := by
      rw [hr, List.drop_eq_getElem_cons (show m < zs.length by omega), val]
      exact stepI_val _ _ hb.1 (by omega) hx.1 hx.2
    rw [hs]
    exact ih
theorem ref_val (zs : List Int) (hB : Bytes zs) (hl : zs.length ≤ 7) (k : Nat) (hk : zs.length + 1 ≤ k) : campanileref23_value.f k zs = some (val zs) := by
  have h := ref_val_at zs hB hl zs.length k (Nat.le_refl _) hk
  rw [List.drop_length] at h
  unfold campanileref23_value.f
  rw [w64s _ (by omega) (by omega)]
  exact h
theorem hd_drop3 (zs : List Int) (p : Nat) : (zs.take (p + 7)).drop (p + 3) = (hd7 zs p).drop 3 := by
  unfold hd7
  rw [List.drop_drop]
theorem hd_take2 (zs : List Int) (p : Nat) : (zs.take (p + 2)).drop p = (hd7 zs p).take 2 := by
  unfold hd7
  rw [List.take_drop, List.take_take, Nat.min_eq_left (by omega)]
theorem hd_two (zs : List Int) (p : Nat) : rd zs ((p + 2 : Nat) : Int) = (hd7 zs p)[2]?.getD 0 := by
  unfold rd hd7
  rw [Int.toNat_natCast, List.getD_eq_getElem?_getD, List.getElem?_drop, List.getElem?_take, if_pos (by omega)]
theorem len_ok {zs : List Int} {p sz : Nat} (h : p + 7 + sz ≤ zs.length) (hl : zs.length ≤ 6000) : ([] : List Int).length + ((zs.take (p + 7 + sz)).drop (p + 7)).length < 140737488355328 := by
  simp
  omega
theorem len_ok2 (zs : List Int) (i : Nat) (h : i ≤ 6000) : ((parsed zs i).map to50).length < 4398046511104 := by
  rw [List.length_map, parsed_length]
  exact Nat.lt_of_le_of_lt h (by decide)
set_option maxHeartbeats 1000000 in
theorem ref_parse_at {zs : List Int} (hB : Bytes zs) (h4 : 4 ≤ zs.length) (hl : zs.length ≤ 6000) : ∀ m i, i + m = cntAt zs → (∀ k, k < i → okAt zs (posK zs k) = true) → ∀ k, m + 20 ≤ k →
    ∃ r1 r2 r3, campanileref23_Parse.l0 k zs ((parsed zs i).map to50) (posK zs i : Int) (m : Int) = some (r1.map to50, r2, r3) ∧ PSaid zs r1 r2 r3
  | 0, i, hi, hok, k, hk => by
    obtain ⟨k', rfl⟩ : ∃ k', k = k' + 1 := ⟨k - 1, by omega⟩
    rw [campanileref23_Parse.l0, if_neg (by omega)]
    by_cases h : posK zs i < zs.length
    · rw [if_pos (by omega)]
      exact ⟨[], 230, posK zs i, rfl, .inr (.inr ⟨h4, by omega, i, by omega, hok, .inl ⟨.inr ⟨by omega, h⟩, rfl, rfl, rfl⟩⟩)⟩
    · rw [if_neg (by omega)]
      exact ⟨_, 0, 0, rfl, .inr (.inr ⟨h4, by omega, i, by omega, hok, .inr ⟨by omega, h, rfl, rfl, rfl⟩⟩)⟩
  | m + 1, i, hi, hok, k, hk => by
    obtain ⟨k', rfl⟩ : ∃ k', k = k' + 1 := ⟨k - 1, by omega⟩
    have hp := posK_le hok h4 i (Nat.le_refl _)
    obtain ⟨p, hpe⟩ : ∃ p, posK zs i = p := ⟨_, rfl⟩
    have hbad : okAt zs p = false → ∃ r1 r2 r3, (some (([] : List S50), (230 : Int), (p : Int)) : Option ((List S50) × Int × Int)) = some (r1.map to50, r2, r3) ∧ PSaid zs r1 r2 r3 := fun hno =>
      ⟨[], 230, p, rfl, .inr (.inr ⟨h4, by omega, i, by omega, hok, .inl ⟨.inl ⟨by omega, by rw [hpe]; exact hno⟩, rfl, rfl, by rw [hpe]⟩⟩)⟩
    rw [hpe] at hp ⊢
    have e3 : Aside0 (wrap64 ((p : Int) + 3) = ((p + 3 : Nat) : Int)) := ⟨by rw [w64 _ (by omega) (by omega)]; omega⟩
    have e7 : Aside0 (wrap64 ((p : Int) + 7) = ((p + 7 : Nat) : Int)) := ⟨by rw [w64 _ (by omega) (by omega)]; omega⟩
    have e2 : Aside0 (wrap64 ((p : Int) + 2) = ((p + 2 : Nat) : Int)) := ⟨by rw [w64 _ (by omega) (by omega)]; omega⟩
    have el : Aside0 (wrap64 ((zs.length : Int) - (p : Int)) = ((zs.length - p : Nat) : Int)) := ⟨by rw [w64 _ (by omega) (by omega)]; omega⟩
    rw [campanileref23_Parse.l0, if_pos (by omega), el.out]
    by_cases h7 : p + 7 ≤ zs.length
    · have hl7 := hd7_length h7
      have hB7 := hd7_bytes hB p
      have el7 : Aside0 (wrap64 (((zs.length - p : Nat) : Int) - 7) = ((zs.length - p - 7 : Nat) : Int)) := ⟨by rw [w64 _ (by omega) (by omega)]; omega⟩
      have hl4 : ((hd7 zs p).drop 3).length = 4 := by rw [List.length_drop]; omega
      have hl2 : ((hd7 zs p).take 2).length = 2 := by rw [List.length_take]; omega
      rw [if_neg (by omega), e3.out, e7.out, e2.out, if_pos (by omega), if_pos (by omega), if_pos (by omega), Int.toNat_natCast, Int.toNat_natCast, hd_drop3, ref_val _ (hB7.drop_ 3) (by omega) k' (by omega), Option.bind_some, szAt_val hB, el7.out]
      by_cases h8 : szAt zs p ≤ 4096
      · rw [if_neg (by omega)]
        by_cases h9 : p + 7 + szAt zs p ≤ zs.length
        · have hyes : okAt zs p = true := by simp [okAt]; omega
          have es : Aside0 (wrap64 (((p + 7 : Nat) : Int) + (szAt zs p : Int)) = ((p + 7 + szAt zs p : Nat) : Int)) := ⟨by rw [w64 _ (by omega) (by omega)]; omega⟩
          have em : Aside0 (wrap64 (((m + 1 : Nat) : Int) - 1) = (m : Int)) := ⟨by rw [w64 _ (by omega) (by have := (val4 hB h4).2; omega)]; omega⟩
          have hi6 : i ≤ 6000 := by have h := posK_ge zs i; rw [hpe] at h; omega
          rw [if_neg (by omega), if_pos (by omega), if_pos (by omega), if_pos (by omega), Int.toNat_natCast, Int.toNat_natCast, hd_take2, ref_val _ (hB7.take_ 2) (by omega) k' (by omega), Option.bind_some, if_pos (by omega), if_pos (by omega), if_pos (by omega), es.out, if_pos (by omega), if_pos (by omega),
            Int.toNat_natCast, if_pos (len_ok h9 hl), if_pos (len_ok2 zs i hi6), hd_two zs p, em.out, List.nil_append]
          have ih := ref_parse_at hB h4 hl m (i + 1) (by omega) (fun k hk => by
            rcases Nat.lt_or_eq_of_le (Nat.le_of_lt_succ hk) with h | rfl
            · exact hok k h
            · rw [hpe]; exact hyes) k' (by omega)
          rw [parsed, List.map_append, posK, hpe] at ih
          exact ih
        · rw [if_pos (by omega)]
          exact hbad (by simp [okAt]; omega)
      · rw [if_pos (by omega)]
        exact hbad (by simp [okAt]; omega)
    · rw [if_pos (by omega)]
      exact hbad (by simp [okAt]; omega)
theorem ref_parse {zs : List Int} (hB : Bytes zs) (hl : zs.length ≤ 6000) : ∃ k r1 r2 r3, campanileref23_Parse.f k zs = some (r1.map to50, r2, r3) ∧ PSaid zs r1 r2 r3 := by
  by_cases h4 : zs.length < 4
  · refine ⟨0, [], 230, 0, ?_, .inr (.inl ⟨h4, rfl, rfl, rfl⟩)⟩
    rw [campanileref23_Parse.f, if_neg (by omega), if_pos (by omega)]
    rfl
  · have hlt : (zs.take 4).length = 4 := by rw [List.length_take]; omega
    obtain ⟨r1, r2, r3, h, hs⟩ := ref_parse_at hB (by omega) hl (cntAt zs) 0 (by omega) (fun k hk => by omega) (cntAt zs + 20) (Nat.le_refl _)
    refine ⟨cntAt zs + 20, r1, r2, r3, ?_, hs⟩
    rw [campanileref23_Parse.f, if_neg (by omega), if_neg (by omega), if_pos (by omega), ref_val _ (hB.take_ 4) (by omega) _ (by omega), Option.bind_some, (val4 hB (by omega)).1]
    exact h
/-- Parse tells one thing. -/
theorem said_one {zs : List Int} {a1 b1 : List Sg} {a2 a3 b2 b3 : Int} (h : PSaid zs a1 a2 a3) (g : PSaid zs b1 b2 b3) : a1 = b1 ∧ a2 = b2 ∧ a3 = b3 := by
  rcases h with ⟨h, x1, x2, x3⟩ | ⟨h, x1, x2, x3⟩ | ⟨h4, hx, K, hK, hok, h⟩
  · rcases g with ⟨g, y1, y2, y3⟩ | ⟨g, y1, y2, y3⟩ | ⟨g4, gx, _⟩
    · exact ⟨x1.trans y1.symm, x2.trans y2.symm, x3.trans y3.symm⟩
    · omega
    · omega
  · rcases g with ⟨g, y1, y2, y3⟩ | ⟨g, y1, y2, y3⟩ | ⟨g4, gx, _⟩
    · omega
    · exact ⟨x1.trans y1.symm, x2.trans y2.symm, x3.trans y3.symm⟩
    · omega
  · rcases g with ⟨g, y1, y2, y3⟩ | ⟨g, y1, y2, y3⟩ | ⟨g4, gx, K', hK', hok', g⟩
    · omega
    · omega
    · have hKK : K = K' := by
        rcases Nat.lt_trichotomy K K' with hlt | h' | hlt
        · have h1 := hok' K hlt
          rcases h with ⟨(⟨_, h2⟩ | ⟨h2, _⟩), _⟩ | ⟨h2, _⟩
          · rw [h1] at h2; cases h2
          · omega
          · omega
        · exact h'
        · have h1 := hok K' hlt
          rcases g with ⟨(⟨_, h2⟩ | ⟨h2, _⟩), _⟩ | ⟨h2, _⟩
          · rw [h1] at h2; cases h2
          · omega
          · omega
      subst hKK
      rcases h with ⟨h, x1, x2, x3⟩ | ⟨h, h', x1, x2, x3⟩ <;> rcases g with ⟨g, y1, y2, y3⟩ | ⟨g, g', y1, y2, y3⟩
      · exact ⟨x1.trans y1.symm, x2.trans y2.symm, x3.trans y3.symm⟩
      · rcases h with ⟨h, _⟩ | ⟨_, h⟩
        · omega
        · exact absurd h g'
      · rcases g with ⟨g, _⟩ | ⟨_, g⟩
        · omega
        · exact absurd g h'
      · exact ⟨x1.trans y1.symm, x2.trans y2.symm, x3.trans y3.symm⟩
end Go.Proofs.Yteflphhdafhapaa.Rng
