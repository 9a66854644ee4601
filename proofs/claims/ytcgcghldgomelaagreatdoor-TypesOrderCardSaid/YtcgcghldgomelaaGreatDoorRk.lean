/- The document's order and bounds of values, plainly: those of the program. -/
import Derived.Test.YtcgcghldgomelaaGreatDoorOrd
import Derived.Test.YtcgcghldgomelaaGreatDoorTck
namespace Go.Proofs.YtcgcghldgomelaaGreatDoor.Mp

def nanR (t : Int) (b : List Int) : Prop := (t = 8 ∧ 2139095040 < num b % 2147483648) ∨ (t = 17 ∧ 9218868437227405312 < num b % 9223372036854775808)
instance (t : Int) (b : List Int) : Decidable (nanR t b) := by unfold nanR; infer_instance
def ordR (t : Int) (b : List Int) : Prop := plainC t b = 0 ∧ knd t ≠ 6 ∧ ¬ nanR t b
instance (t : Int) (b : List Int) : Decidable (ordR t b) := by unfold ordR; infer_instance
def keyR (t : Int) (b : List Int) : Int := if knd t = 2 then wholeC b + 256 ^ b.length / 2 else if knd t = 4 then (if b.length = 4 then kyS (num b).toNat else kyD (num b).toNat) else if knd t = 5 then num (b.drop 4) * 4294967296 + num (b.take 4) else num b
theorem cmp3_add (a b c : Int) : cmp3 (a + c) (b + c) = cmp3 a b := by
  unfold cmp3
  repeat' split
  all_goals omega
theorem cmp3_lex {a b x y : Int} (hx : 0 ≤ x ∧ x < 4294967296) (hy : 0 ≤ y ∧ y < 4294967296) : or2 (cmp3 a b) (cmp3 x y) = cmp3 (a * 4294967296 + x) (b * 4294967296 + y) := by
  unfold or2 cmp3
  repeat' split
  all_goals omega
theorem knd_4 {t : Int} (h : knd t = 4) : (t = 8 ∧ siz t = 4) ∨ (t = 17 ∧ siz t = 8) := by
  have := form_cases t
  omega
theorem not_nan {t : Int} {b : List Int} (h : knd t ≠ 4) : ¬ nanR t b := by
  unfold nanR
  rintro (⟨rfl, _⟩ | ⟨rfl, _⟩) <;> exact h rfl
theorem num_4 {b : List Int} (h : Byt b) (hl : b.length = 4) : 0 ≤ num b ∧ num b < 4294967296 := by
  have h1 := num_lt h
  rw [hl] at h1
  exact ⟨num_nonneg h, h1⟩
theorem num_8 {b : List Int} (h : Byt b) (hl : b.length = 8) : 0 ≤ num b ∧ num b < 18446744073709551616 := by
  have h1 := num_lt h
  rw [hl] at h1
  exact ⟨num_nonneg h, h1⟩
theorem byt_take {b : List Int} (h : Byt b) (n : Nat) : Byt (b.take n) := fun x hx => h x (List.mem_of_mem_take hx)
theorem byt_drop {b : List Int} (h : Byt b) (n : Nat) : Byt (b.drop n) := fun x hx => h x (List.mem_of_mem_drop hx)
theorem nan_F {t : Int} {b : List Int} (hb : Byt b) (hk : knd t = 4) (hp : plainC t b = 0) : nanF b ↔ nanR t b := by
  have hl := (plainC_0 hp).2.2.1 (by omega)
  unfold nanF nanR
  rcases knd_4 hk with ⟨rfl, hs⟩ | ⟨rfl, hs⟩
  · have h4 : b.length = 4 := by omega
    have hn := num_4 hb h4
    rw [if_pos h4, nan_S]
    unfold rgS
    omega
  · have h8 : b.length = 8 := by omega
    have hn := num_8 hb h8
    rw [if_neg (by omega), nan_D]
    unfold rgD
    omega
theorem key_4 {t : Int} (hk : knd t = 4) {b : List Int} : keyR t b = if b.length = 4 then kyS (num b).toNat else kyD (num b).toNat := by
  unfold keyR
  rw [if_neg (show knd t ≠ 2 by omega), if_pos hk]
theorem flt_key {t : Int} {a b : List Int} (ha : Byt a) (hb : Byt b) (hk : knd t = 4) (hpa : plainC t a = 0) (hpb : plainC t b = 0) (hna : ¬ nanR t a) (hnb : ¬ nanR t b) : fcmp (bitF a) (bitF b) = cmp3 (keyR t a) (keyR t b) := by
  have hla := (plainC_0 hpa).2.2.1 (by omega)
  have hlb := (plainC_0 hpb).2.2.1 (by omega)
  rw [key_4 hk, key_4 hk]
  unfold bitF
  unfold nanR at hna hnb
  rcases knd_4 hk with ⟨rfl, hs⟩ | ⟨rfl, hs⟩
  · have h4 : a.length = 4 := by omega
    have h5 : b.length = 4 := by omega
    have hn := num_4 ha h4
    have hm := num_4 hb h5
    simp only [if_pos h4, if_pos h5]
    exact fcmp_S _ _ (by omega) (by omega) (by unfold rgS; omega) (by unfold rgS; omega)
  · have h4 : a.length = 8 := by omega
    have h5 : b.length = 8 := by omega
    have hn := num_8 ha h4
    have hm := num_8 hb h5
    simp only [if_neg (show ¬ a.length = 4 by omega), if_neg (show ¬ b.length = 4 by omega)]
    exact fcmp_D _ _ (by omega) (by omega) (by unfold rgD; omega) (by unfold rgD; omega)
/-- Compare is the document's. -/
theorem cmp_R (t : Int) {a b : List Int} (ha : Byt a) (hb : Byt b) : cmpC t a b = if ordR t a ∧ ordR t b then (cmp3 (keyR t a) (keyR t b), true) else (0, false) := by
  unfold cmpC
  by_cases hp : plainC t a ≠ 0 ∨ plainC t b ≠ 0
  · rw [if_pos hp, if_neg]
    rintro ⟨⟨h1, _⟩, ⟨h2, _⟩⟩
    rcases hp with h | h
    · exact h h1
    · exact h h2
  have hpa : plainC t a = 0 := Classical.byContradiction fun h => hp (.inl h)
  have hpb : plainC t b = 0 := Classical.byContradiction fun h => hp (.inr h)
  rw [if_neg hp]
  by_cases h6 : knd t = 6
  · rw [if_pos h6, if_neg]
    rintro ⟨⟨_, h1, _⟩, _⟩
    exact h1 h6
  rw [if_neg h6]
  by_cases h4 : knd t = 4
  · rw [if_neg (by omega), if_pos h4]
    unfold fltC
    have na := nan_F ha h4 hpa
    have nb := nan_F hb h4 hpb
    by_cases hn : nanF a ∨ nanF b
    · rw [if_pos hn, if_neg]
      rintro ⟨⟨_, _, h1⟩, ⟨_, _, h2⟩⟩
      rcases hn with h | h
      · exact h1 (na.1 h)
      · exact h2 (nb.1 h)
    · have h1 : ¬ nanR t a := fun h => hn (.inl (na.2 h))
      have h2 : ¬ nanR t b := fun h => hn (.inr (nb.2 h))
      rw [if_neg hn, if_pos ⟨⟨hpa, h6, h1⟩, ⟨hpb, h6, h2⟩⟩, flt_key ha hb h4 hpa hpb h1 h2]
  have hna := not_nan (b := a) h4
  have hnb := not_nan (b := b) h4
  rw [if_pos (⟨⟨hpa, h6, hna⟩, ⟨hpb, h6, hnb⟩⟩ : ordR t a ∧ ordR t b)]
  have hla := (plainC_0 hpa).2.2.1 h6
  have hlb := (plainC_0 hpb).2.2.1 h6
  unfold keyR
  by_cases h2 : knd t = 2
  · rw [if_pos h2, if_pos h2, if_pos h2, show a.length = b.length by omega, cmp3_add]
  rw [if_neg h2, if_neg h4, if_neg h2, if_neg h4, if_neg h2, if_neg h4]
  by_cases h5 : knd t = 5
  · rw [if_pos h5, if_pos h5, if_pos h5]
    have hs := (siz_of t).2.2.2.2.1 h5
    rw [cmp3_lex (num_4 (byt_take ha 4) (by rw [List.length_take]; omega)) (num_4 (byt_take hb 4) (by rw [List.length_take]; omega))]
  · rw [if_neg h5, if_neg h5, if_neg h5]
def chkR (t : Int) (b low high : List Int) : Int :=
  if plainC t b ≠ 0 ∨ knd t = 6 then plainC t b
  else if ((0 < high.length ∧ ordR t high) ∨ (0 < low.length ∧ ordR t low)) ∧ nanR t b then 0x06090030
  else if (0 < high.length ∧ ordR t high) ∧ keyR t high < keyR t b then 0x06090031
  else if (0 < low.length ∧ ordR t low) ∧ keyR t b < keyR t low then 0x06090032 else 0
theorem cmp_self {t : Int} {x : List Int} (hx : Byt x) : (cmpC t x x).2 = true ↔ ordR t x := by
  rw [cmp_R t hx hx]
  by_cases h : ordR t x
  · rw [if_pos ⟨h, h⟩]
    exact ⟨fun _ => h, fun _ => rfl⟩
  · rw [if_neg (fun k => h k.1)]
    exact ⟨fun k => (by cases k), fun k => absurd k h⟩
theorem bnd_R {t : Int} {x : List Int} (hx : Byt x) : bndC t x ↔ 0 < x.length ∧ ordR t x := by
  unfold bndC
  rw [cmp_self hx]
/-- Check is the document's. -/
theorem chk_R (t : Int) {b low high : List Int} (hb : Byt b) (hl : Byt low) (hh : Byt high) : chkC t b low high = chkR t b low high := by
  have e1 := bnd_R (t := t) hl
  have e2 := bnd_R (t := t) hh
  have e3 := cmp_self (t := t) hb
  unfold chkC chkR
  by_cases hp' : plainC t b ≠ 0
  · rw [if_pos hp', if_pos (.inl hp')]
  have hp : plainC t b = 0 := Classical.not_not.1 hp'
  rw [if_neg hp']
  by_cases h6 : knd t = 6
  · have hno : ∀ x : List Int, Byt x → ¬ bndC t x := fun x hx h => ((bnd_R hx).1 h).2.2.1 h6
    refine Eq.trans (b := 0) ?_ ?_
    · rw [if_neg (fun h => by rcases h.2 with h | h; exact hno _ hl h; exact hno _ hh h), if_neg (fun h => hno _ hh h.1), if_neg (fun h => hno _ hl h.1)]
    · rw [if_pos (.inr h6), hp]
  rw [if_neg (show ¬ (plainC t b ≠ 0 ∨ knd t = 6) by rintro (h | h); exact hp' h; exact h6 h)]
  have hob : ordR t b ↔ ¬ nanR t b := ⟨fun h => h.2.2, fun h => ⟨hp, h6, h⟩⟩
  have ef : (cmpC t b b).2 = false ↔ nanR t b := by
    rw [← Bool.not_eq_true, e3, hob, Classical.not_not]
  by_cases hn : nanR t b
  · have hcm : ∀ x : List Int, Byt x → (cmpC t b x).1 = 0 := fun x hx => by
      rw [cmp_R t hb hx, if_neg (fun k => k.1.2.2 hn)]
    rw [hcm _ hh, hcm _ hl]
    by_cases hu : bndC t low ∨ bndC t high
    · refine Eq.trans (b := 0x06090030) ?_ ?_
      · rw [if_pos ⟨ef.2 hn, hu⟩]
      · rw [if_pos ⟨by rcases hu with h | h; exact .inr (e1.1 h); exact .inl (e2.1 h), hn⟩]
    · have h1 : ¬ bndC t low := fun h => hu (.inl h)
      have h2 : ¬ bndC t high := fun h => hu (.inr h)
      refine Eq.trans (b := 0) ?_ ?_
      · rw [if_neg (fun k => hu k.2), if_neg (fun k => h2 k.1), if_neg (fun k => h1 k.1)]
      · rw [if_neg (fun k => by rcases k.1 with h | h; exact h2 (e2.2 h); exact h1 (e1.2 h)), if_neg (fun k => h2 (e2.2 k.1)), if_neg (fun k => h1 (e1.2 k.1))]
  · have hcm : ∀ x : List Int, Byt x → ordR t x → (cmpC t b x).1 = cmp3 (keyR t b) (keyR t x) := fun x hx ho => by
      rw [cmp_R t hb hx, if_pos ⟨hob.2 hn, ho⟩]
    have hgt : ∀ p q : Int, 0 < cmp3 p q ↔ q < p := fun p q => by unfold cmp3; repeat' split <;> omega
    have hlt : ∀ p q : Int, cmp3 p q < 0 ↔ p < q := fun p q => by unfold cmp3; repeat' split <;> omega
    have E1 : (bndC t high ∧ 0 < (cmpC t b high).1) ↔ ((0 < high.length ∧ ordR t high) ∧ keyR t high < keyR t b) := by
      rw [e2]
      refine and_congr_right fun k => ?_
      rw [hcm _ hh k.2, hgt]
    have E2 : (bndC t low ∧ (cmpC t b low).1 < 0) ↔ ((0 < low.length ∧ ordR t low) ∧ keyR t b < keyR t low) := by
      rw [e1]
      refine and_congr_right fun k => ?_
      rw [hcm _ hl k.2, hlt]
    rw [if_neg (show ¬ ((cmpC t b b).2 = false ∧ (bndC t low ∨ bndC t high)) from fun k => hn (ef.1 k.1)), if_neg (show ¬ (((0 < high.length ∧ ordR t high) ∨ (0 < low.length ∧ ordR t low)) ∧ nanR t b) from fun k => hn k.2)]
    by_cases h2 : bndC t high ∧ 0 < (cmpC t b high).1
    · rw [if_pos h2, if_pos (E1.1 h2)]
    · rw [if_neg h2, if_neg (fun k => h2 (E1.2 k))]
      by_cases h1 : bndC t low ∧ (cmpC t b low).1 < 0
      · rw [if_pos h1, if_pos (E2.1 h1)]
      · rw [if_neg h1, if_neg (fun k => h1 (E2.2 k))]
end Go.Proofs.YtcgcghldgomelaaGreatDoor.Mp
