/- The document's order and bounds of values, plainly: those of the program. The document's functions of layer 1, walked: Kind, Size, Right. types.Check. Bits packed into bytes, plainly. -/
import Derived.Test.YtokebpeplopjhaaDoorY2
namespace Go.Proofs.YtokebpeplopjhaaDoor.Mp

def nanR (t : Int) (b : List Int) : Prop := (t = 8 ∧ 2139095040 < num b % 2147483648) ∨ (t = 17 ∧ 9218868437227405312 < num b % 9223372036854775808)
instance (t : Int) (b : List Int) : Decidable (nanR t b) := by unfold nanR; infer_instance
def ordR (t : Int) (b : List Int) : Prop := plainC t b = 0 ∧ knd t ≠ 6 ∧ ¬ nanR t b
instance (t : Int) (b : List Int) : Decidable (ordR t b) := by unfold ordR; infer_instance
def keyR (t : Int) (b : List Int) : Int := if knd t = 2 then wholeC b + 256 ^ b.length / 2 else if knd t = 4 then (if b.length = 4 then kyS (num b).toNat else kyD (num b).toNat) else if knd t = 5 then num (b.drop 4) * 4294967296 + num (b.take 4) else num b
theorem cmp3_add (a b c : Int) : cmp3 (a + c) (b + c) = cmp3 a b := by
  unfold cmp3
  repeat' split
  all_goals omega
theorem cmp3_lex {a b x y : Int} (hx : 0 ≤ x ∧ x < 4294967296) (hy : 0 ≤ y ∧ y < 4294967296) : or2 (cmp3 a b) (cmp3 x y) = cmp3 (a * 4294967296 + x) (b * 4294967296 + y) := by
  unfold or2 cmp3
  repeat' split
  all_goals omega
theorem knd_4 {t : Int} (h : knd t = 4) : (t = 8 ∧ siz t = 4) ∨ (t = 17 ∧ siz t = 8) := by
  have := form_cases t
  omega
theorem not_nan {t : Int} {b : List Int} (h : knd t ≠ 4) : ¬ nanR t b := by
  unfold nanR
  rintro (⟨rfl, _⟩ | ⟨rfl, _⟩) <;> exact h rfl
theorem num_4 {b : List Int} (h : Byt b) (hl : b.length = 4) : 0 ≤ num b ∧ num b < 4294967296 := by
  have h1 := num_lt h
  rw [hl] at h1
  exact ⟨num_nonneg h, h1⟩
theorem num_8 {b : List Int} (h : Byt b) (hl : b.length = 8) : 0 ≤ num b ∧ num b < 18446744073709551616 := by
  have h1 := num_lt h
  rw [hl] at h1
  exact ⟨num_nonneg h, h1⟩
theorem byt_take {b : List Int} (h : Byt b) (n : Nat) : Byt (b.take n) := fun x hx => h x (List.mem_of_mem_take hx)
theorem byt_drop {b : List Int} (h : Byt b) (n : Nat) : Byt (b.drop n) := fun x hx => h x (List.mem_of_mem_drop hx)
theorem nan_F {t : Int} {b : List Int} (hb : Byt b) (hk : knd t = 4) (hp : plainC t b = 0) : nanF b ↔ nanR t b := by
  have hl := (plainC_0 hp).2.2.1 (by omega)
  unfold nanF nanR
  rcases knd_4 hk with ⟨rfl, hs⟩ | ⟨rfl, hs⟩
  · have h4 : b.length = 4 := by omega
    have hn := num_4 hb h4
    rw [if_pos h4, nan_S]
    unfold rgS
    omega
  · have h8 : b.length = 8 := by omega
    have hn := num_8 hb h8
    rw [if_neg (by omega), nan_D]
    unfold rgD
    omega
theorem key_4 {t : Int} (hk : knd t = 4) {b : List Int} : keyR t b = if b.length = 4 then kyS (num b).toNat else kyD (num b).toNat := by
  unfold keyR
  rw [if_neg (show knd t ≠ 2 by omega), if_pos hk]
theorem flt_key {t : Int} {a b : List Int} (ha : Byt a) (hb : Byt b) (hk : knd t = 4) (hpa : plainC t a = 0) (hpb : plainC t b = 0) (hna : ¬ nanR t a) (hnb : ¬ nanR t b) : fcmp (bitF a) (bitF b) = cmp3 (keyR t a) (keyR t b) := by
  have hla := (plainC_0 hpa).2.2.1 (by omega)
  have hlb := (plainC_0 hpb).2.2.1 (by omega)
  rw [key_4 hk, key_4 hk]
  unfold bitF
  unfold nanR at hna hnb
  rcases knd_4 hk with ⟨rfl, hs⟩ | ⟨rfl, hs⟩
  · have h4 : a.length = 4 := by omega
    have h5 : b.length = 4 := by omega
    have hn := num_4 ha h4
    have hm := num_4 hb h5
    simp only [if_pos h4, if_pos h5]
    exact fcmp_S _ _ (by omega) (by omega) (by unfold rgS; omega) (by unfold rgS; omega)
  · have h4 : a.length = 8 := by omega
    have h5 : b.length = 8 := by omega
    have hn := num_8 ha h4
    have hm := num_8 hb h5
    simp only [if_neg (show ¬ a.length = 4 by omega), if_neg (show ¬ b.length = 4 by omega)]
    exact fcmp_D _ _ (by omega) (by omega) (by unfold rgD; omega) (by unfold rgD; omega)
/-- Compare is the document's. -/
theorem cmp_R (t : Int) {a b : List Int} (ha : Byt a) (hb : Byt b) : cmpC t a b = if ordR t a ∧ ordR t b then (cmp3 (keyR t a) (keyR t b), true) else (0, false) := by
  unfold cmpC
  by_cases hp : plainC t a ≠ 0 ∨ plainC t b ≠ 0
  · rw [if_pos hp, if_neg]
    rintro ⟨⟨h1, _⟩, ⟨h2, _⟩⟩
    rcases hp with h | h
    · exact h h1
    · exact h h2
  have hpa : plainC t a = 0 := Classical.byContradiction fun h => hp (.inl h)
  have hpb : plainC t b = 0 := Classical.byContradiction fun h => hp (.inr h)
  rw [if_neg hp]
  by_cases h6 : knd t = 6
  · rw [if_pos h6, if_neg]
    rintro ⟨⟨_, h1, _⟩, _⟩
    exact h1 h6
  rw [if_neg h6]
  by_cases h4 : knd t = 4
  · rw [if_neg (by omega), if_pos h4]
    unfold fltC
    have na := nan_F ha h4 hpa
    have nb := nan_F hb h4 hpb
    by_cases hn : nanF a ∨ nanF b
    · rw [if_pos hn, if_neg]
      rintro ⟨⟨_, _, h1⟩, ⟨_, _, h2⟩⟩
      rcases hn with h | h
      · exact h1 (na.1 h)
      · exact h2 (nb.1 h)
    · have h1 : ¬ nanR t a := fun h => hn (.inl (na.2 h))
      have h2 : ¬ nanR t b := fun h => hn (.inr (nb.2 h))
      rw [if_neg hn, if_pos ⟨⟨hpa, h6, h1⟩, ⟨hpb, h6, h2⟩⟩, flt_key ha hb h4 hpa hpb h1 h2]
  have hna := not_nan (b := a) h4
  have hnb := not_nan (b := b) h4
  rw [if_pos (⟨⟨hpa, h6, hna⟩, ⟨hpb, h6, hnb⟩⟩ : ordR t a ∧ ordR t b)]
  have hla := (plainC_0 hpa).2.2.1 h6
  have hlb := (plainC_0 hpb).2.2.1 h6
  unfold keyR
  by_cases h2 : knd t = 2
  · rw [if_pos h2, if_pos h2, if_pos h2, show a.length = b.length by omega, cmp3_add]
  rw [if_neg h2, if_neg h4, if_neg h2, if_neg h4, if_neg h2, if_neg h4]
  by_cases h5 : knd t = 5
  · rw [if_pos h5, if_pos h5, if_pos h5]
    have hs := (siz_of t).2.2.2.2.1 h5
    rw [cmp3_lex (num_4 (byt_take ha 4) (by rw [List.length_take]; omega)) (num_4 (byt_take hb 4) (by rw [List.length_take]; omega))]
  · rw [if_neg h5, if_neg h5, if_neg h5]
def chkR (t : Int) (b low high : List Int) : Int :=
  if plainC t b ≠ 0 ∨ knd t = 6 then plainC t b
  else if ((0 < high.length ∧ ordR t high) ∨ (0 < low.length ∧ ordR t low)) ∧ nanR t b then 0x06090030
  else if (0 < high.length ∧ ordR t high) ∧ keyR t high < keyR t b then 0x06090031
  else if (0 < low.length ∧ ordR t low) ∧ keyR t b < keyR t low then 0x06090032 else 0
theorem cmp_self {t : Int} {x : List Int} (hx : Byt x) : (cmpC t x x).2 = true ↔ ordR t x := by
  rw [cmp_R t hx hx]
  by_cases h : ordR t x
  · rw [if_pos ⟨h, h⟩]
    exact ⟨fun _ => h, fun _ => rfl⟩
  · rw [if_neg (fun k => h k.1)]
    exact ⟨fun k => (by cases k), fun k => absurd k h⟩
theorem bnd_R {t : Int} {x : List Int} (hx : Byt x) : bndC t x ↔ 0 < x.length ∧ ordR t x := by
  unfold bndC
  rw [cmp_self hx]
/-- Check is the document's. -/
theorem chk_R (t : Int) {b low high : List Int} (hb : Byt b) (hl : Byt low) (hh : Byt high) : chkC t b low high = chkR t b low high := by
  have e1 := bnd_R (t := t) hl
  have e2 := bnd_R (t := t) hh
  have e3 := cmp_self (t := t) hb
  unfold chkC chkR
  by_cases hp' : plainC t b ≠ 0
  · rw [if_pos hp', if_pos (.inl hp')]
  have hp : plainC t b = 0 := Classical.not_not.1 hp'
  rw [if_neg hp']
  by_cases h6 : knd t = 6
  · have hno : ∀ x : List Int, Byt x → ¬ bndC t x := fun x hx h => ((bnd_R hx).1 h).2.2.1 h6
    refine Eq.trans (b := 0) ?_ ?_
    · rw [if_neg (fun h => by rcases h.2 with h | h; exact hno _ hl h; exact hno _ hh h), if_neg (fun h => hno _ hh h.1), if_neg (fun h => hno _ hl h.1)]
    · rw [if_pos (.inr h6), hp]
  rw [if_neg (show ¬ (plainC t b ≠ 0 ∨ knd t = 6) by rintro (h | h); exact hp' h; exact h6 h)]
  have hob : ordR t b ↔ ¬ nanR t b := ⟨fun h => h.2.2, fun h => ⟨hp, h6, h⟩⟩
  have ef : (cmpC t b b).2 = false ↔ nanR t b := by
    rw [← Bool.not_eq_true, e3, hob, Classical.not_not]
  by_cases hn : nanR t b
  · have hcm : ∀ x : List Int, Byt x → (cmpC t b x).1 = 0 := fun x hx => by
      rw [cmp_R t hb hx, if_neg (fun k => k.1.2.2 hn)]
    rw [hcm _ hh, hcm _ hl]
    by_cases hu : bndC t low ∨ bndC t high
    · refine Eq.trans (b := 0x06090030) ?_ ?_
      · rw [if_pos ⟨ef.2 hn, hu⟩]
      · rw [if_pos ⟨by rcases hu with h | h; exact .inr (e1.1 h); exact .inl (e2.1 h), hn⟩]
    · have h1 : ¬ bndC t low := fun h => hu (.inl h)
      have h2 : ¬ bndC t high := fun h => hu (.inr h)
      refine Eq.trans (b := 0) ?_ ?_
      · rw [if_neg (fun k => hu k.2), if_neg (fun k => h2 k.1), if_neg (fun k => h1 k.1)]
      · rw [if_neg (fun k => by rcases k.1 with h | h; exact h2 (e2.2 h); exact h1 (e1.2 h)), if_neg (fun k => h2 (e2.2 k.1)), if_neg (fun k => h1 (e1.2 k.1))]
  · have hcm : ∀ x : List Int, Byt x → ordR t x → (cmpC t b x).1 = cmp3 (keyR t b) (keyR t x) := fun x hx ho => by
      rw [cmp_R t hb hx, if_pos ⟨hob.2 hn, ho⟩]
    have hgt : ∀ p q : Int, 0 < cmp3 p q ↔ q < p := fun p q => by unfold cmp3; repeat' split <;> omega
    have hlt : ∀ p q : Int, cmp3 p q < 0 ↔ p < q := fun p q => by unfold cmp3; repeat' split <;> omega
    have E1 : (bndC t high ∧ 0 < (cmpC t b high).1) ↔ ((0 < high.length ∧ ordR t high) ∧ keyR t high < keyR t b) := by
      rw [e2]
      refine and_congr_right fun k => ?_
      rw [hcm _ hh k.2, hgt]
    have E2 : (bndC t low ∧ (cmpC t b low).1 < 0) ↔ ((0 < low.length ∧ ordR t low) ∧ keyR t b < keyR t low) := by
      rw [e1]
      refine and_congr_right fun k => ?_
      rw [hcm _ hl k.2, hlt]
    rw [if_neg (show ¬ ((cmpC t b b).2 = false ∧ (bndC t low ∨ bndC t high)) from fun k => hn (ef.1 k.1)), if_neg (show ¬ (((0 < high.length ∧ ordR t high) ∨ (0 < low.length ∧ ordR t low)) ∧ nanR t b) from fun k => hn k.2)]
    by_cases h2 : bndC t high ∧ 0 < (cmpC t b high).1
    · rw [if_pos h2, if_pos (E1.1 h2)]
    · rw [if_neg h2, if_neg (fun k => h2 (E1.2 k))]
      by_cases h1 : bndC t low ∧ (cmpC t b low).1 < 0
      · rw [if_pos h1, if_pos (E2.1 h1)]
      · rw [if_neg h1, if_neg (fun k => h1 (E2.2 k))]
end Go.Proofs.YtokebpeplopjhaaDoor.Mp
namespace Go.Proofs.YtokebpeplopjhaaDoor.Mp
open Go.RowKit Go.Shelf Go.Proofs.YtokebpeplopjhaaDoor.Rng Go.Proofs.YtokebpeplopjhaaDoorW.PrintWords Go.Proofs.YtokebpeplopjhaaDoorW.PrintMore Go.Proofs.YtokebpeplopjhaaDoorW.PrintLast

def letR (k : Int) : Int := if k = 1 then 98 else if k = 2 then 105 else if k = 3 then 117 else if k = 4 then 102 else if k = 5 then 116 else if k = 6 then 115 else 0
theorem letR_eq (k : Int) (h : k = 0 ∨ k = 1 ∨ k = 2 ∨ k = 3 ∨ k = 4 ∨ k = 5 ∨ k = 6) : (letR k = 98 ↔ k = 1) ∧ (letR k = 116 ↔ k = 5) ∧ (letR k = 115 ↔ k = 6) ∧ (letR k = 105 ↔ k = 2) ∧ (letR k = 102 ↔ k = 4) ∧ (letR k = 0 ↔ k = 0) := by
  rcases h with rfl | rfl | rfl | rfl | rfl | rfl | rfl <;> decide
set_option maxRecDepth 100000 in
set_option maxHeartbeats 4000000 in
theorem rkind_any (t : Int) (w : World) : Calls Tryd.prog 143 #[.int .u8 t] w fun e w' => e = .returned (.int .u8 (letR (knd t))) ∧ w' = w := by
  by_cases h1 : t = 1
  · subst h1
    go_enter Tryd.func143, Tryd.ntmps143
    go_wp2
    go_ret
    exact ⟨rfl, rfl⟩
  by_cases h2 : t = 2
  · subst h2
    go_enter Tryd.func143, Tryd.ntmps143
    go_wp2
    go_ret
    exact ⟨rfl, rfl⟩
  by_cases h3 : t = 3
  · subst h3
    go_enter Tryd.func143, Tryd.ntmps143
    go_wp2
    go_ret
    exact ⟨rfl, rfl⟩
  by_cases h4 : t = 4
  · subst h4
    go_enter Tryd.func143, Tryd.ntmps143
    go_wp2
    go_ret
    exact ⟨rfl, rfl⟩
  by_cases h16 : t = 16
  · subst h16
    go_enter Tryd.func143, Tryd.ntmps143
    go_wp2
    go_ret
    exact ⟨rfl, rfl⟩
  by_cases h21 : t = 21
  · subst h21
    go_enter Tryd.func143, Tryd.ntmps143
    go_wp2
    go_ret
    exact ⟨rfl, rfl⟩
  by_cases h5 : t = 5
  · subst h5
    go_enter Tryd.func143, Tryd.ntmps143
    go_wp2
    go_ret
    exact ⟨rfl, rfl⟩
  by_cases h6 : t = 6
  · subst h6
    go_enter Tryd.func143, Tryd.ntmps143
    go_wp2
    go_ret
    exact ⟨rfl, rfl⟩
  by_cases h7 : t = 7
  · subst h7
    go_enter Tryd.func143, Tryd.ntmps143
    go_wp2
    go_ret
    exact ⟨rfl, rfl⟩
  by_cases h22 : t = 22
  · subst h22
    go_enter Tryd.func143, Tryd.ntmps143
    go_wp2
    go_ret
    exact ⟨rfl, rfl⟩
  by_cases h27 : t = 27
  · subst h27
    go_enter Tryd.func143, Tryd.ntmps143
    go_wp2
    go_ret
    exact ⟨rfl, rfl⟩
  by_cases h8 : t = 8
  · subst h8
    go_enter Tryd.func143, Tryd.ntmps143
    go_wp2
    go_ret
    exact ⟨rfl, rfl⟩
  by_cases h17 : t = 17
  · subst h17
    go_enter Tryd.func143, Tryd.ntmps143
    go_wp2
    go_ret
    exact ⟨rfl, rfl⟩
  by_cases h12 : t = 12
  · subst h12
    go_enter Tryd.func143, Tryd.ntmps143
    go_wp2
    go_ret
    exact ⟨rfl, rfl⟩
  by_cases h13 : t = 13
  · subst h13
    go_enter Tryd.func143, Tryd.ntmps143
    go_wp2
    go_ret
    exact ⟨rfl, rfl⟩
  by_cases h9 : t = 9
  · subst h9
    go_enter Tryd.func143, Tryd.ntmps143
    go_wp2
    go_ret
    exact ⟨rfl, rfl⟩
  by_cases h10 : t = 10
  · subst h10
    go_enter Tryd.func143, Tryd.ntmps143
    go_wp2
    go_ret
    exact ⟨rfl, rfl⟩
  by_cases h15 : t = 15
  · subst h15
    go_enter Tryd.func143, Tryd.ntmps143
    go_wp2
    go_ret
    exact ⟨rfl, rfl⟩
  have hk : knd t = 0 := by simp [knd, h1, h2, h3, h4, h16, h21, h5, h6, h7, h22, h27, h8, h17, h12, h13, h9, h10, h15]
  have hz : siz t = 0 := by simp [siz, h1, h2, h3, h4, h16, h21, h5, h6, h7, h22, h27, h8, h17, h12, h13]
  rw [hk]
  have g1 : (t == 1) = false := by simpa using h1
  have g2 : (t == 2) = false := by simpa using h2
  have g3 : (t == 3) = false := by simpa using h3
  have g4 : (t == 4) = false := by simpa using h4
  have g16 : (t == 16) = false := by simpa using h16
  have g21 : (t == 21) = false := by simpa using h21
  have g5 : (t == 5) = false := by simpa using h5
  have g6 : (t == 6) = false := by simpa using h6
  have g7 : (t == 7) = false := by simpa using h7
  have g22 : (t == 22) = false := by simpa using h22
  have g27 : (t == 27) = false := by simpa using h27
  have g8 : (t == 8) = false := by simpa using h8
  have g17 : (t == 17) = false := by simpa using h17
  have g12 : (t == 12) = false := by simpa using h12
  have g13 : (t == 13) = false := by simpa using h13
  have g9 : (t == 9) = false := by simpa using h9
  have g10 : (t == 10) = false := by simpa using h10
  have g15 : (t == 15) = false := by simpa using h15
  go_enter Tryd.func143, Tryd.ntmps143
  go_wp2
  go_ret
  exact ⟨rfl, rfl⟩
set_option maxRecDepth 100000 in
set_option maxHeartbeats 4000000 in
theorem rsize_any (t : Int) (w : World) : Calls Tryd.prog 141 #[.int .u8 t] w fun e w' => e = .returned (.tuple #[.int .i64 (siz t), .bool (decide (0 < siz t))]) ∧ w' = w := by
  by_cases h1 : t = 1
  · subst h1
    go_enter Tryd.func141, Tryd.ntmps141
    go_wp2
    go_ret2
    exact ⟨rfl, rfl⟩
  by_cases h2 : t = 2
  · subst h2
    go_enter Tryd.func141, Tryd.ntmps141
    go_wp2
    go_ret2
    exact ⟨rfl, rfl⟩
  by_cases h3 : t = 3
  · subst h3
    go_enter Tryd.func141, Tryd.ntmps141
    go_wp2
    go_ret2
    exact ⟨rfl, rfl⟩
  by_cases h4 : t = 4
  · subst h4
    go_enter Tryd.func141, Tryd.ntmps141
    go_wp2
    go_ret2
    exact ⟨rfl, rfl⟩
  by_cases h16 : t = 16
  · subst h16
    go_enter Tryd.func141, Tryd.ntmps141
    go_wp2
    go_ret2
    exact ⟨rfl, rfl⟩
  by_cases h21 : t = 21
  · subst h21
    go_enter Tryd.func141, Tryd.ntmps141
    go_wp2
    go_ret2
    exact ⟨rfl, rfl⟩
  by_cases h5 : t = 5
  · subst h5
    go_enter Tryd.func141, Tryd.ntmps141
    go_wp2
    go_ret2
    exact ⟨rfl, rfl⟩
  by_cases h6 : t = 6
  · subst h6
    go_enter Tryd.func141, Tryd.ntmps141
    go_wp2
    go_ret2
    exact ⟨rfl, rfl⟩
  by_cases h7 : t = 7
  · subst h7
    go_enter Tryd.func141, Tryd.ntmps141
    go_wp2
    go_ret2
    exact ⟨rfl, rfl⟩
  by_cases h22 : t = 22
  · subst h22
    go_enter Tryd.func141, Tryd.ntmps141
    go_wp2
    go_ret2
    exact ⟨rfl, rfl⟩
  by_cases h27 : t = 27
  · subst h27
    go_enter Tryd.func141, Tryd.ntmps141
    go_wp2
    go_ret2
    exact ⟨rfl, rfl⟩
  by_cases h8 : t = 8
  · subst h8
    go_enter Tryd.func141, Tryd.ntmps141
    go_wp2
    go_ret2
    exact ⟨rfl, rfl⟩
  by_cases h17 : t = 17
  · subst h17
    go_enter Tryd.func141, Tryd.ntmps141
    go_wp2
    go_ret2
    exact ⟨rfl, rfl⟩
  by_cases h12 : t = 12
  · subst h12
    go_enter Tryd.func141, Tryd.ntmps141
    go_wp2
    go_ret2
    exact ⟨rfl, rfl⟩
  by_cases h13 : t = 13
  · subst h13
    go_enter Tryd.func141, Tryd.ntmps141
    go_wp2
    go_ret2
    exact ⟨rfl, rfl⟩
  by_cases h9 : t = 9
  · subst h9
    go_enter Tryd.func141, Tryd.ntmps141
    go_wp2
    go_ret2
    exact ⟨rfl, rfl⟩
  by_cases h10 : t = 10
  · subst h10
    go_enter Tryd.func141, Tryd.ntmps141
    go_wp2
    go_ret2
    exact ⟨rfl, rfl⟩
  by_cases h15 : t = 15
  · subst h15
    go_enter Tryd.func141, Tryd.ntmps141
    go_wp2
    go_ret2
    exact ⟨rfl, rfl⟩
  have hk : knd t = 0 := by simp [knd, h1, h2, h3, h4, h16, h21, h5, h6, h7, h22, h27, h8, h17, h12, h13, h9, h10, h15]
  have hz : siz t = 0 := by simp [siz, h1, h2, h3, h4, h16, h21, h5, h6, h7, h22, h27, h8, h17, h12, h13]
  rw [hz]
  have g1 : (t == 1) = false := by simpa using h1
  have g2 : (t == 2) = false := by simpa using h2
  have g3 : (t == 3) = false := by simpa using h3
  have g4 : (t == 4) = false := by simpa using h4
  have g16 : (t == 16) = false := by simpa using h16
  have g21 : (t == 21) = false := by simpa using h21
  have g5 : (t == 5) = false := by simpa using h5
  have g6 : (t == 6) = false := by simpa using h6
  have g7 : (t == 7) = false := by simpa using h7
  have g22 : (t == 22) = false := by simpa using h22
  have g27 : (t == 27) = false := by simpa using h27
  have g8 : (t == 8) = false := by simpa using h8
  have g17 : (t == 17) = false := by simpa using h17
  have g12 : (t == 12) = false := by simpa using h12
  have g13 : (t == 13) = false := by simpa using h13
  have g9 : (t == 9) = false := by simpa using h9
  have g10 : (t == 10) = false := by simpa using h10
  have g15 : (t == 15) = false := by simpa using h15
  go_enter Tryd.func141, Tryd.ntmps141
  go_wp2
  go_ret2
  exact ⟨rfl, rfl⟩
set_option maxRecDepth 100000 in
theorem rright_any (t : Int) (w : World) : Calls Tryd.prog 139 #[.int .u8 t] w fun e w' => e = .returned (.bool (decide (knd t ≠ 0))) ∧ w' = w := by
  have hb : (letR (knd t) != 0) = decide (knd t ≠ 0) := by
    have h := (letR_eq (knd t) (knd_cases t)).2.2.2.2.2
    by_cases h0 : knd t = 0
    · simp [h0, letR]
    · have : letR (knd t) ≠ 0 := fun k => h0 (h.1 k)
      simp [h0, this]
  have HB := Aside0.mk hb
  clear hb
  go_enter Tryd.func139, Tryd.ntmps139
  go_wp2_with (go_at_call 143; refine (rkind_any t w).mono ?_; rintro e w1 ⟨rfl, rfl⟩)
  rw [HB.out]
  go_ret
  exact ⟨rfl, rfl⟩
end Go.Proofs.YtokebpeplopjhaaDoor.Mp
namespace Go.Proofs.YtokebpeplopjhaaDoor.Mp
open Go.RowKit Go.Shelf Go.Proofs.YtokebpeplopjhaaDoor.Rng Go.Proofs.YtokebpeplopjhaaDoorW.PrintWords Go.Proofs.YtokebpeplopjhaaDoorW.PrintMore Go.Proofs.YtokebpeplopjhaaDoorW.PrintLast Go.Proofs.YtokebpeplopjhaaDoor.Num

/-- A row of bytes as an argument. -/
structure Arg (w : World) (A : Option Addr) (c : Nat) (a : List Int) : Prop where
  rd : Rd w A a
  byt : Byt a
  le : a.length ≤ c
  cap : c ≤ 9223372036854775807
theorem Arg.below {w w' : World} {A : Option Addr} {c : Nat} {a : List Int} (h : Arg w A c a) (hb : Below w.heap.size w w') : Arg w' A c a := ⟨h.rd.below hb, h.byt, h.le, h.cap⟩
section
variable (t : Int) (ht : 0 ≤ t ∧ t < 256) (A : Option Addr) (c : Nat) (b : List Int) (L : Option Addr) (cl : Nat) (low : List Int) (U : Option Addr) (cu : Nat) (high : List Int) (w : World)
/-- What Check tells. -/
def ChkSaid (w : World) (r : Int) (e : Ending) (w' : World) : Prop := e = .returned (.int .u32 r) ∧ Below w.heap.size w w'
/-- The box of the type. -/
abbrev boxed (w : World) (t : Int) : World := w.alloc (.cells #[.int .u8 t] 5)
theorem boxed_cell (w : World) (t : Int) (W : World) (h : Below (boxed w t).heap.size (boxed w t) W) : W.cell? ⟨w.heap.size, 0, none⟩ = some (.int .u8 t) := by
  refine (h.cell (p := ⟨w.heap.size, 0, none⟩) (by simp)).trans ?_
  exact blk_cell (blk_new w (.cells #[.int .u8 t] 5)) 0
set_option maxRecDepth 100000 in
set_option maxHeartbeats 2000000 in
theorem check_p (ht : 0 ≤ t ∧ t < 256) (h : Tbl w) (ha : Arg w A c b) (hl : Arg w L cl low) (hh : Arg w U cu high) (hp : plainC t b ≠ 0) :
    Calls Tryd.prog 78 #[.int .u8 t, .slice A b.length c, .slice L low.length cl, .slice U high.length cu] w (ChkSaid w (plainC t b)) := by
  have hb0 : Below w.heap.size w (boxed w t) := below_alloc (Below.refl _ _) _
  have HT := Aside0.mk (h.below hb0)
  have KA := Aside0.mk (ha.below hb0)
  have KL := Aside0.mk (hl.below hb0)
  have KU := Aside0.mk (hh.below hb0)
  have HB := Aside0.mk (Below.refl (boxed w t).heap.size (boxed w t))
  have HP := Aside0.mk fun W (hW : Below (boxed w t).heap.size (boxed w t) W) => plain_any t ht A c b W (HT.out.below hW) (KA.out.below hW).rd ha.byt ha.le ha.cap
  have HC0 := Aside0.mk fun W (hW : Below (boxed w t).heap.size (boxed w t) W) => compare_any t ht A c b A c b W (HT.out.below hW) (KA.out.below hW).rd ha.byt ha.le ha.cap (KA.out.below hW).rd ha.byt ha.le ha.cap
  have HCU := Aside0.mk fun W (hW : Below (boxed w t).heap.size (boxed w t) W) => compare_any t ht A c b U cu high W (HT.out.below hW) (KA.out.below hW).rd ha.byt ha.le ha.cap (KU.out.below hW).rd hh.byt hh.le hh.cap
  have HCL := Aside0.mk fun W (hW : Below (boxed w t).heap.size (boxed w t) W) => compare_any t ht A c b L cl low W (HT.out.below hW) (KA.out.below hW).rd ha.byt ha.le ha.cap (KL.out.below hW).rd hl.byt hl.le hl.cap
  have HBL := Aside0.mk fun W (hW : Below (boxed w t).heap.size (boxed w t) W) => bound_any t ht w.heap.size L cl low W (HT.out.below hW) (boxed_cell w t W hW) (KL.out.below hW).rd hl.byt hl.le hl.cap
  have HBU := Aside0.mk fun W (hW : Below (boxed w t).heap.size (boxed w t) W) => bound_any t ht w.heap.size U cu high W (HT.out.below hW) (boxed_cell w t W hW) (KU.out.below hW).rd hh.byt hh.le hh.cap
  clear h ha hl hh HT KA KL KU
  obtain ⟨r, hr⟩ : ∃ r, plainC t b = r := ⟨_, rfl⟩
  simp only [hr] at HP hp
  rw [hr]
  have hp1 : (r == 0) = false := by simpa using hp
  have hp2 : (r != 0) = true := by simpa using hp
  clear hr hp HC0 HCU HCL HBL HBU
  generalize b.length = nb at *
  generalize low.length = nl at *
  generalize high.length = nh at *
  go_enter Tryd.func78, Tryd.ntmps78
  go_wp2_with (first
    | (go_at_call 115; (with_reducible refine (HP.out _ HB.out).mono ?_); rintro e w1 ⟨rfl, hb⟩; replace HB := Aside0.mk (HB.out.trans (hb.mono HB.out.size)); have hc1 := boxed_cell w t _ HB.out; clear hb)
    | (go_at_call 117; (with_reducible refine (HC0.out _ HB.out).mono ?_); rintro e w2 ⟨rfl, hb⟩; replace HB := Aside0.mk (HB.out.trans (hb.mono HB.out.size)); have hc2 := boxed_cell w t _ HB.out; clear hb)
    | (go_at_call 117; (with_reducible refine (HCU.out _ HB.out).mono ?_); rintro e w3 ⟨rfl, hb⟩; replace HB := Aside0.mk (HB.out.trans (hb.mono HB.out.size)); have hc3 := boxed_cell w t _ HB.out; clear hb)
    | (go_at_call 117; (with_reducible refine (HCL.out _ HB.out).mono ?_); rintro e w4 ⟨rfl, hb⟩; replace HB := Aside0.mk (HB.out.trans (hb.mono HB.out.size)); have hc4 := boxed_cell w t _ HB.out; clear hb)
    | (go_at_call 116; (with_reducible refine (HBL.out _ HB.out).mono ?_); rintro e w5 ⟨rfl, hb⟩; replace HB := Aside0.mk (HB.out.trans (hb.mono HB.out.size)); have hc5 := boxed_cell w t _ HB.out; clear hb)
    | (go_at_call 116; (with_reducible refine (HBU.out _ HB.out).mono ?_); rintro e w6 ⟨rfl, hb⟩; replace HB := Aside0.mk (HB.out.trans (hb.mono HB.out.size)); have hc6 := boxed_cell w t _ HB.out; clear hb))
  go_ret
  exact ⟨rfl, hb0.trans (HB.out.mono (by simp))⟩
set_option maxRecDepth 100000 in
set_option maxHeartbeats 2000000 in
theorem check_1 (ht : 0 ≤ t ∧ t < 256) (h : Tbl w) (ha : Arg w A c b) (hl : Arg w L cl low) (hh : Arg w U cu high) (hp : plainC t b = 0) (h2 : (cmpC t b b).2 = false) (hbl : bndC t low) :
    Calls Tryd.prog 78 #[.int .u8 t, .slice A b.length c, .slice L low.length cl, .slice U high.length cu] w (ChkSaid w 0x06090030) := by
  have hb0 : Below w.heap.size w (boxed w t) := below_alloc (Below.refl _ _) _
  have HT := Aside0.mk (h.below hb0)
  have KA := Aside0.mk (ha.below hb0)
  have KL := Aside0.mk (hl.below hb0)
  have KU := Aside0.mk (hh.below hb0)
  have HB := Aside0.mk (Below.refl (boxed w t).heap.size (boxed w t))
  have HP := Aside0.mk fun W (hW : Below (boxed w t).heap.size (boxed w t) W) => plain_any t ht A c b W (HT.out.below hW) (KA.out.below hW).rd ha.byt ha.le ha.cap
  have HC0 := Aside0.mk fun W (hW : Below (boxed w t).heap.size (boxed w t) W) => compare_any t ht A c b A c b W (HT.out.below hW) (KA.out.below hW).rd ha.byt ha.le ha.cap (KA.out.below hW).rd ha.byt ha.le ha.cap
  have HCU := Aside0.mk fun W (hW : Below (boxed w t).heap.size (boxed w t) W) => compare_any t ht A c b U cu high W (HT.out.below hW) (KA.out.below hW).rd ha.byt ha.le ha.cap (KU.out.below hW).rd hh.byt hh.le hh.cap
  have HCL := Aside0.mk fun W (hW : Below (boxed w t).heap.size (boxed w t) W) => compare_any t ht A c b L cl low W (HT.out.below hW) (KA.out.below hW).rd ha.byt ha.le ha.cap (KL.out.below hW).rd hl.byt hl.le hl.cap
  have HBL := Aside0.mk fun W (hW : Below (boxed w t).heap.size (boxed w t) W) => bound_any t ht w.heap.size L cl low W (HT.out.below hW) (boxed_cell w t W hW) (KL.out.below hW).rd hl.byt hl.le hl.cap
  have HBU := Aside0.mk fun W (hW : Below (boxed w t).heap.size (boxed w t) W) => bound_any t ht w.heap.size U cu high W (HT.out.below hW) (boxed_cell w t W hW) (KU.out.below hW).rd hh.byt hh.le hh.cap
  clear h ha hl hh HT KA KL KU
  simp only [hp] at HP
  obtain ⟨⟨v1, v2⟩, hv⟩ : ∃ v, cmpC t b b = v := ⟨_, rfl⟩
  obtain ⟨⟨x1, x2⟩, hx⟩ : ∃ v, cmpC t b high = v := ⟨_, rfl⟩
  obtain ⟨⟨y1, y2⟩, hy⟩ : ∃ v, cmpC t b low = v := ⟨_, rfl⟩
  simp only [hv] at HC0 h2
  simp only [hx] at HCU
  simp only [hy] at HCL
  clear hp hv hx hy
  subst h2
  simp only [hbl, decide_true] at HBL
  clear HBU
  generalize b.length = nb at *
  generalize low.length = nl at *
  generalize high.length = nh at *
  go_enter Tryd.func78, Tryd.ntmps78
  go_wp2_with (first
    | (go_at_call 115; (with_reducible refine (HP.out _ HB.out).mono ?_); rintro e w1 ⟨rfl, hb⟩; replace HB := Aside0.mk (HB.out.trans (hb.mono HB.out.size)); have hc1 := boxed_cell w t _ HB.out; clear hb)
    | (go_at_call 117; (with_reducible refine (HC0.out _ HB.out).mono ?_); rintro e w2 ⟨rfl, hb⟩; replace HB := Aside0.mk (HB.out.trans (hb.mono HB.out.size)); have hc2 := boxed_cell w t _ HB.out; clear hb)
    | (go_at_call 117; (with_reducible refine (HCU.out _ HB.out).mono ?_); rintro e w3 ⟨rfl, hb⟩; replace HB := Aside0.mk (HB.out.trans (hb.mono HB.out.size)); have hc3 := boxed_cell w t _ HB.out; clear hb)
    | (go_at_call 117; (with_reducible refine (HCL.out _ HB.out).mono ?_); rintro e w4 ⟨rfl, hb⟩; replace HB := Aside0.mk (HB.out.trans (hb.mono HB.out.size)); have hc4 := boxed_cell w t _ HB.out; clear hb)
    | (go_at_call 116; (with_reducible refine (HBL.out _ HB.out).mono ?_); rintro e w5 ⟨rfl, hb⟩; replace HB := Aside0.mk (HB.out.trans (hb.mono HB.out.size)); have hc5 := boxed_cell w t _ HB.out; clear hb)
    | (go_at_call 116; (with_reducible refine (HBU.out _ HB.out).mono ?_); rintro e w6 ⟨rfl, hb⟩; replace HB := Aside0.mk (HB.out.trans (hb.mono HB.out.size)); have hc6 := boxed_cell w t _ HB.out; clear hb))
  go_ret
  exact ⟨rfl, hb0.trans (HB.out.mono (by simp))⟩
set_option maxRecDepth 100000 in
set_option maxHeartbeats 2000000 in
theorem check_2 (ht : 0 ≤ t ∧ t < 256) (h : Tbl w) (ha : Arg w A c b) (hl : Arg w L cl low) (hh : Arg w U cu high) (hp : plainC t b = 0) (h2 : (cmpC t b b).2 = false) (hbl : ¬ bndC t low) (hbh : bndC t high) :
    Calls Tryd.prog 78 #[.int .u8 t, .slice A b.length c, .slice L low.length cl, .slice U high.length cu] w (ChkSaid w 0x06090030) := by
  have hb0 : Below w.heap.size w (boxed w t) := below_alloc (Below.refl _ _) _
  have HT := Aside0.mk (h.below hb0)
  have KA := Aside0.mk (ha.below hb0)
  have KL := Aside0.mk (hl.below hb0)
  have KU := Aside0.mk (hh.below hb0)
  have HB := Aside0.mk (Below.refl (boxed w t).heap.size (boxed w t))
  have HP := Aside0.mk fun W (hW : Below (boxed w t).heap.size (boxed w t) W) => plain_any t ht A c b W (HT.out.below hW) (KA.out.below hW).rd ha.byt ha.le ha.cap
  have HC0 := Aside0.mk fun W (hW : Below (boxed w t).heap.size (boxed w t) W) => compare_any t ht A c b A c b W (HT.out.below hW) (KA.out.below hW).rd ha.byt ha.le ha.cap (KA.out.below hW).rd ha.byt ha.le ha.cap
  have HCU := Aside0.mk fun W (hW : Below (boxed w t).heap.size (boxed w t) W) => compare_any t ht A c b U cu high W (HT.out.below hW) (KA.out.below hW).rd ha.byt ha.le ha.cap (KU.out.below hW).rd hh.byt hh.le hh.cap
  have HCL := Aside0.mk fun W (hW : Below (boxed w t).heap.size (boxed w t) W) => compare_any t ht A c b L cl low W (HT.out.below hW) (KA.out.below hW).rd ha.byt ha.le ha.cap (KL.out.below hW).rd hl.byt hl.le hl.cap
  have HBL := Aside0.mk fun W (hW : Below (boxed w t).heap.size (boxed w t) W) => bound_any t ht w.heap.size L cl low W (HT.out.below hW) (boxed_cell w t W hW) (KL.out.below hW).rd hl.byt hl.le hl.cap
  have HBU := Aside0.mk fun W (hW : Below (boxed w t).heap.size (boxed w t) W) => bound_any t ht w.heap.size U cu high W (HT.out.below hW) (boxed_cell w t W hW) (KU.out.below hW).rd hh.byt hh.le hh.cap
  clear h ha hl hh HT KA KL KU
  simp only [hp] at HP
  obtain ⟨⟨v1, v2⟩, hv⟩ : ∃ v, cmpC t b b = v := ⟨_, rfl⟩
  obtain ⟨⟨x1, x2⟩, hx⟩ : ∃ v, cmpC t b high = v := ⟨_, rfl⟩
  obtain ⟨⟨y1, y2⟩, hy⟩ : ∃ v, cmpC t b low = v := ⟨_, rfl⟩
  simp only [hv] at HC0 h2
  simp only [hx] at HCU
  simp only [hy] at HCL
  clear hp hv hx hy
  subst h2
  simp only [hbl, decide_false] at HBL
  simp only [hbh, decide_true] at HBU
  generalize b.length = nb at *
  generalize low.length = nl at *
  generalize high.length = nh at *
  go_enter Tryd.func78, Tryd.ntmps78
  go_wp2_with (first
    | (go_at_call 115; (with_reducible refine (HP.out _ HB.out).mono ?_); rintro e w1 ⟨rfl, hb⟩; replace HB := Aside0.mk (HB.out.trans (hb.mono HB.out.size)); have hc1 := boxed_cell w t _ HB.out; clear hb)
    | (go_at_call 117; (with_reducible refine (HC0.out _ HB.out).mono ?_); rintro e w2 ⟨rfl, hb⟩; replace HB := Aside0.mk (HB.out.trans (hb.mono HB.out.size)); have hc2 := boxed_cell w t _ HB.out; clear hb)
    | (go_at_call 117; (with_reducible refine (HCU.out _ HB.out).mono ?_); rintro e w3 ⟨rfl, hb⟩; replace HB := Aside0.mk (HB.out.trans (hb.mono HB.out.size)); have hc3 := boxed_cell w t _ HB.out; clear hb)
    | (go_at_call 117; (with_reducible refine (HCL.out _ HB.out).mono ?_); rintro e w4 ⟨rfl, hb⟩; replace HB := Aside0.mk (HB.out.trans (hb.mono HB.out.size)); have hc4 := boxed_cell w t _ HB.out; clear hb)
    | (go_at_call 116; (with_reducible refine (HBL.out _ HB.out).mono ?_); rintro e w5 ⟨rfl, hb⟩; replace HB := Aside0.mk (HB.out.trans (hb.mono HB.out.size)); have hc5 := boxed_cell w t _ HB.out; clear hb)
    | (go_at_call 116; (with_reducible refine (HBU.out _ HB.out).mono ?_); rintro e w6 ⟨rfl, hb⟩; replace HB := Aside0.mk (HB.out.trans (hb.mono HB.out.size)); have hc6 := boxed_cell w t _ HB.out; clear hb))
  go_ret
  exact ⟨rfl, hb0.trans (HB.out.mono (by simp))⟩
set_option maxRecDepth 100000 in
set_option maxHeartbeats 2000000 in
theorem check_3 (ht : 0 ≤ t ∧ t < 256) (h : Tbl w) (ha : Arg w A c b) (hl : Arg w L cl low) (hh : Arg w U cu high) (hp : plainC t b = 0) (h2 : (cmpC t b b).2 = false) (hbl : ¬ bndC t low) (hbh : ¬ bndC t high) :
    Calls Tryd.prog 78 #[.int .u8 t, .slice A b.length c, .slice L low.length cl, .slice U high.length cu] w (ChkSaid w 0) := by
  have hb0 : Below w.heap.size w (boxed w t) := below_alloc (Below.refl _ _) _
  have HT := Aside0.mk (h.below hb0)
  have KA := Aside0.mk (ha.below hb0)
  have KL := Aside0.mk (hl.below hb0)
  have KU := Aside0.mk (hh.below hb0)
  have HB := Aside0.mk (Below.refl (boxed w t).heap.size (boxed w t))
  have HP := Aside0.mk fun W (hW : Below (boxed w t).heap.size (boxed w t) W) => plain_any t ht A c b W (HT.out.below hW) (KA.out.below hW).rd ha.byt ha.le ha.cap
  have HC0 := Aside0.mk fun W (hW : Below (boxed w t).heap.size (boxed w t) W) => compare_any t ht A c b A c b W (HT.out.below hW) (KA.out.below hW).rd ha.byt ha.le ha.cap (KA.out.below hW).rd ha.byt ha.le ha.cap
  have HCU := Aside0.mk fun W (hW : Below (boxed w t).heap.size (boxed w t) W) => compare_any t ht A c b U cu high W (HT.out.below hW) (KA.out.below hW).rd ha.byt ha.le ha.cap (KU.out.below hW).rd hh.byt hh.le hh.cap
  have HCL := Aside0.mk fun W (hW : Below (boxed w t).heap.size (boxed w t) W) => compare_any t ht A c b L cl low W (HT.out.below hW) (KA.out.below hW).rd ha.byt ha.le ha.cap (KL.out.below hW).rd hl.byt hl.le hl.cap
  have HBL := Aside0.mk fun W (hW : Below (boxed w t).heap.size (boxed w t) W) => bound_any t ht w.heap.size L cl low W (HT.out.below hW) (boxed_cell w t W hW) (KL.out.below hW).rd hl.byt hl.le hl.cap
  have HBU := Aside0.mk fun W (hW : Below (boxed w t).heap.size (boxed w t) W) => bound_any t ht w.heap.size U cu high W (HT.out.below hW) (boxed_cell w t W hW) (KU.out.below hW).rd hh.byt hh.le hh.cap
  clear h ha hl hh HT KA KL KU
  simp only [hp] at HP
  obtain ⟨⟨v1, v2⟩, hv⟩ : ∃ v, cmpC t b b = v := ⟨_, rfl⟩
  obtain ⟨⟨x1, x2⟩, hx⟩ : ∃ v, cmpC t b high = v := ⟨_, rfl⟩
  obtain ⟨⟨y1, y2⟩, hy⟩ : ∃ v, cmpC t b low = v := ⟨_, rfl⟩
  simp only [hv] at HC0 h2
  simp only [hx] at HCU
  simp only [hy] at HCL
  clear hp hv hx hy
  subst h2
  simp only [hbl, decide_false] at HBL
  simp only [hbh, decide_false] at HBU
  generalize b.length = nb at *
  generalize low.length = nl at *
  generalize high.length = nh at *
  go_enter Tryd.func78, Tryd.ntmps78
  go_wp2_with (first
    | (go_at_call 115; (with_reducible refine (HP.out _ HB.out).mono ?_); rintro e w1 ⟨rfl, hb⟩; replace HB := Aside0.mk (HB.out.trans (hb.mono HB.out.size)); have hc1 := boxed_cell w t _ HB.out; clear hb)
    | (go_at_call 117; (with_reducible refine (HC0.out _ HB.out).mono ?_); rintro e w2 ⟨rfl, hb⟩; replace HB := Aside0.mk (HB.out.trans (hb.mono HB.out.size)); have hc2 := boxed_cell w t _ HB.out; clear hb)
    | (go_at_call 117; (with_reducible refine (HCU.out _ HB.out).mono ?_); rintro e w3 ⟨rfl, hb⟩; replace HB := Aside0.mk (HB.out.trans (hb.mono HB.out.size)); have hc3 := boxed_cell w t _ HB.out; clear hb)
    | (go_at_call 117; (with_reducible refine (HCL.out _ HB.out).mono ?_); rintro e w4 ⟨rfl, hb⟩; replace HB := Aside0.mk (HB.out.trans (hb.mono HB.out.size)); have hc4 := boxed_cell w t _ HB.out; clear hb)
    | (go_at_call 116; (with_reducible refine (HBL.out _ HB.out).mono ?_); rintro e w5 ⟨rfl, hb⟩; replace HB := Aside0.mk (HB.out.trans (hb.mono HB.out.size)); have hc5 := boxed_cell w t _ HB.out; clear hb)
    | (go_at_call 116; (with_reducible refine (HBU.out _ HB.out).mono ?_); rintro e w6 ⟨rfl, hb⟩; replace HB := Aside0.mk (HB.out.trans (hb.mono HB.out.size)); have hc6 := boxed_cell w t _ HB.out; clear hb))
  go_ret
  exact ⟨rfl, hb0.trans (HB.out.mono (by simp))⟩
set_option maxRecDepth 100000 in
set_option maxHeartbeats 2000000 in
theorem check_4 (ht : 0 ≤ t ∧ t < 256) (h : Tbl w) (ha : Arg w A c b) (hl : Arg w L cl low) (hh : Arg w U cu high) (hp : plainC t b = 0) (h2 : (cmpC t b b).2 = true) (hbh : bndC t high) (hx0 : 0 < (cmpC t b high).1) :
    Calls Tryd.prog 78 #[.int .u8 t, .slice A b.length c, .slice L low.length cl, .slice U high.length cu] w (ChkSaid w 0x06090031) := by
  have hb0 : Below w.heap.size w (boxed w t) := below_alloc (Below.refl _ _) _
  have HT := Aside0.mk (h.below hb0)
  have KA := Aside0.mk (ha.below hb0)
  have KL := Aside0.mk (hl.below hb0)
  have KU := Aside0.mk (hh.below hb0)
  have HB := Aside0.mk (Below.refl (boxed w t).heap.size (boxed w t))
  have HP := Aside0.mk fun W (hW : Below (boxed w t).heap.size (boxed w t) W) => plain_any t ht A c b W (HT.out.below hW) (KA.out.below hW).rd ha.byt ha.le ha.cap
  have HC0 := Aside0.mk fun W (hW : Below (boxed w t).heap.size (boxed w t) W) => compare_any t ht A c b A c b W (HT.out.below hW) (KA.out.below hW).rd ha.byt ha.le ha.cap (KA.out.below hW).rd ha.byt ha.le ha.cap
  have HCU := Aside0.mk fun W (hW : Below (boxed w t).heap.size (boxed w t) W) => compare_any t ht A c b U cu high W (HT.out.below hW) (KA.out.below hW).rd ha.byt ha.le ha.cap (KU.out.below hW).rd hh.byt hh.le hh.cap
  have HCL := Aside0.mk fun W (hW : Below (boxed w t).heap.size (boxed w t) W) => compare_any t ht A c b L cl low W (HT.out.below hW) (KA.out.below hW).rd ha.byt ha.le ha.cap (KL.out.below hW).rd hl.byt hl.le hl.cap
  have HBL := Aside0.mk fun W (hW : Below (boxed w t).heap.size (boxed w t) W) => bound_any t ht w.heap.size L cl low W (HT.out.below hW) (boxed_cell w t W hW) (KL.out.below hW).rd hl.byt hl.le hl.cap
  have HBU := Aside0.mk fun W (hW : Below (boxed w t).heap.size (boxed w t) W) => bound_any t ht w.heap.size U cu high W (HT.out.below hW) (boxed_cell w t W hW) (KU.out.below hW).rd hh.byt hh.le hh.cap
  clear h ha hl hh HT KA KL KU
  simp only [hp] at HP
  obtain ⟨⟨v1, v2⟩, hv⟩ : ∃ v, cmpC t b b = v := ⟨_, rfl⟩
  obtain ⟨⟨x1, x2⟩, hx⟩ : ∃ v, cmpC t b high = v := ⟨_, rfl⟩
  obtain ⟨⟨y1, y2⟩, hy⟩ : ∃ v, cmpC t b low = v := ⟨_, rfl⟩
  simp only [hv] at HC0 h2
  simp only [hx] at HCU hx0
  simp only [hy] at HCL
  clear hp hv hx hy
  subst h2
  clear HBL
  simp only [hbh, decide_true] at HBU
  have hx1 : decide ((0 : Int) < x1) = true := by simpa using hx0
  generalize b.length = nb at *
  generalize low.length = nl at *
  generalize high.length = nh at *
  go_enter Tryd.func78, Tryd.ntmps78
  go_wp2_with (first
    | (go_at_call 115; (with_reducible refine (HP.out _ HB.out).mono ?_); rintro e w1 ⟨rfl, hb⟩; replace HB := Aside0.mk (HB.out.trans (hb.mono HB.out.size)); have hc1 := boxed_cell w t _ HB.out; clear hb)
    | (go_at_call 117; (with_reducible refine (HC0.out _ HB.out).mono ?_); rintro e w2 ⟨rfl, hb⟩; replace HB := Aside0.mk (HB.out.trans (hb.mono HB.out.size)); have hc2 := boxed_cell w t _ HB.out; clear hb)
    | (go_at_call 117; (with_reducible refine (HCU.out _ HB.out).mono ?_); rintro e w3 ⟨rfl, hb⟩; replace HB := Aside0.mk (HB.out.trans (hb.mono HB.out.size)); have hc3 := boxed_cell w t _ HB.out; clear hb)
    | (go_at_call 117; (with_reducible refine (HCL.out _ HB.out).mono ?_); rintro e w4 ⟨rfl, hb⟩; replace HB := Aside0.mk (HB.out.trans (hb.mono HB.out.size)); have hc4 := boxed_cell w t _ HB.out; clear hb)
    | (go_at_call 116; (with_reducible refine (HBL.out _ HB.out).mono ?_); rintro e w5 ⟨rfl, hb⟩; replace HB := Aside0.mk (HB.out.trans (hb.mono HB.out.size)); have hc5 := boxed_cell w t _ HB.out; clear hb)
    | (go_at_call 116; (with_reducible refine (HBU.out _ HB.out).mono ?_); rintro e w6 ⟨rfl, hb⟩; replace HB := Aside0.mk (HB.out.trans (hb.mono HB.out.size)); have hc6 := boxed_cell w t _ HB.out; clear hb))
  go_ret
  exact ⟨rfl, hb0.trans (HB.out.mono (by simp))⟩
set_option maxRecDepth 100000 in
set_option maxHeartbeats 2000000 in
theorem check_5 (ht : 0 ≤ t ∧ t < 256) (h : Tbl w) (ha : Arg w A c b) (hl : Arg w L cl low) (hh : Arg w U cu high) (hp : plainC t b = 0) (h2 : (cmpC t b b).2 = true) (hbl : bndC t low) (hbh : bndC t high) (hx0 : ¬ 0 < (cmpC t b high).1) (hy0 : (cmpC t b low).1 < 0) :
    Calls Tryd.prog 78 #[.int .u8 t, .slice A b.length c, .slice L low.length cl, .slice U high.length cu] w (ChkSaid w 0x06090032) := by
  have hb0 : Below w.heap.size w (boxed w t) := below_alloc (Below.refl _ _) _
  have HT := Aside0.mk (h.below hb0)
  have KA := Aside0.mk (ha.below hb0)
  have KL := Aside0.mk (hl.below hb0)
  have KU := Aside0.mk (hh.below hb0)
  have HB := Aside0.mk (Below.refl (boxed w t).heap.size (boxed w t))
  have HP := Aside0.mk fun W (hW : Below (boxed w t).heap.size (boxed w t) W) => plain_any t ht A c b W (HT.out.below hW) (KA.out.below hW).rd ha.byt ha.le ha.cap
  have HC0 := Aside0.mk fun W (hW : Below (boxed w t).heap.size (boxed w t) W) => compare_any t ht A c b A c b W (HT.out.below hW) (KA.out.below hW).rd ha.byt ha.le ha.cap (KA.out.below hW).rd ha.byt ha.le ha.cap
  have HCU := Aside0.mk fun W (hW : Below (boxed w t).heap.size (boxed w t) W) => compare_any t ht A c b U cu high W (HT.out.below hW) (KA.out.below hW).rd ha.byt ha.le ha.cap (KU.out.below hW).rd hh.byt hh.le hh.cap
  have HCL := Aside0.mk fun W (hW : Below (boxed w t).heap.size (boxed w t) W) => compare_any t ht A c b L cl low W (HT.out.below hW) (KA.out.below hW).rd ha.byt ha.le ha.cap (KL.out.below hW).rd hl.byt hl.le hl.cap
  have HBL := Aside0.mk fun W (hW : Below (boxed w t).heap.size (boxed w t) W) => bound_any t ht w.heap.size L cl low W (HT.out.below hW) (boxed_cell w t W hW) (KL.out.below hW).rd hl.byt hl.le hl.cap
  have HBU := Aside0.mk fun W (hW : Below (boxed w t).heap.size (boxed w t) W) => bound_any t ht w.heap.size U cu high W (HT.out.below hW) (boxed_cell w t W hW) (KU.out.below hW).rd hh.byt hh.le hh.cap
  clear h ha hl hh HT KA KL KU
  simp only [hp] at HP
  obtain ⟨⟨v1, v2⟩, hv⟩ : ∃ v, cmpC t b b = v := ⟨_, rfl⟩
  obtain ⟨⟨x1, x2⟩, hx⟩ : ∃ v, cmpC t b high = v := ⟨_, rfl⟩
  obtain ⟨⟨y1, y2⟩, hy⟩ : ∃ v, cmpC t b low = v := ⟨_, rfl⟩
  simp only [hv] at HC0 h2
  simp only [hx] at HCU hx0
  simp only [hy] at HCL hy0
  clear hp hv hx hy
  subst h2
  simp only [hbl, decide_true] at HBL
  simp only [hbh, decide_true] at HBU
  have hx1 : decide ((0 : Int) < x1) = false := by simpa using hx0
  have hy1 : decide (y1 < (0 : Int)) = true := by simpa using hy0
  generalize b.length = nb at *
  generalize low.length = nl at *
  generalize high.length = nh at *
  go_enter Tryd.func78, Tryd.ntmps78
  go_wp2_with (first
    | (go_at_call 115; (with_reducible refine (HP.out _ HB.out).mono ?_); rintro e w1 ⟨rfl, hb⟩; replace HB := Aside0.mk (HB.out.trans (hb.mono HB.out.size)); have hc1 := boxed_cell w t _ HB.out; clear hb)
    | (go_at_call 117; (with_reducible refine (HC0.out _ HB.out).mono ?_); rintro e w2 ⟨rfl, hb⟩; replace HB := Aside0.mk (HB.out.trans (hb.mono HB.out.size)); have hc2 := boxed_cell w t _ HB.out; clear hb)
    | (go_at_call 117; (with_reducible refine (HCU.out _ HB.out).mono ?_); rintro e w3 ⟨rfl, hb⟩; replace HB := Aside0.mk (HB.out.trans (hb.mono HB.out.size)); have hc3 := boxed_cell w t _ HB.out; clear hb)
    | (go_at_call 117; (with_reducible refine (HCL.out _ HB.out).mono ?_); rintro e w4 ⟨rfl, hb⟩; replace HB := Aside0.mk (HB.out.trans (hb.mono HB.out.size)); have hc4 := boxed_cell w t _ HB.out; clear hb)
    | (go_at_call 116; (with_reducible refine (HBL.out _ HB.out).mono ?_); rintro e w5 ⟨rfl, hb⟩; replace HB := Aside0.mk (HB.out.trans (hb.mono HB.out.size)); have hc5 := boxed_cell w t _ HB.out; clear hb)
    | (go_at_call 116; (with_reducible refine (HBU.out _ HB.out).mono ?_); rintro e w6 ⟨rfl, hb⟩; replace HB := Aside0.mk (HB.out.trans (hb.mono HB.out.size)); have hc6 := boxed_cell w t _ HB.out; clear hb))
  go_ret
  exact ⟨rfl, hb0.trans (HB.out.mono (by simp))⟩
set_option maxRecDepth 100000 in
set_option maxHeartbeats 2000000 in
theorem check_6 (ht : 0 ≤ t ∧ t < 256) (h : Tbl w) (ha : Arg w A c b) (hl : Arg w L cl low) (hh : Arg w U cu high) (hp : plainC t b = 0) (h2 : (cmpC t b b).2 = true) (hbl : bndC t low) (hbh : bndC t high) (hx0 : ¬ 0 < (cmpC t b high).1) (hy0 : ¬ (cmpC t b low).1 < 0) :
    Calls Tryd.prog 78 #[.int .u8 t, .slice A b.length c, .slice L low.length cl, .slice U high.length cu] w (ChkSaid w 0) := by
  have hb0 : Below w.heap.size w (boxed w t) := below_alloc (Below.refl _ _) _
  have HT := Aside0.mk (h.below hb0)
  have KA := Aside0.mk (ha.below hb0)
  have KL := Aside0.mk (hl.below hb0)
  have KU := Aside0.mk (hh.below hb0)
  have HB := Aside0.mk (Below.refl (boxed w t).heap.size (boxed w t))
  have HP := Aside0.mk fun W (hW : Below (boxed w t).heap.size (boxed w t) W) => plain_any t ht A c b W (HT.out.below hW) (KA.out.below hW).rd ha.byt ha.le ha.cap
  have HC0 := Aside0.mk fun W (hW : Below (boxed w t).heap.size (boxed w t) W) => compare_any t ht A c b A c b W (HT.out.below hW) (KA.out.below hW).rd ha.byt ha.le ha.cap (KA.out.below hW).rd ha.byt ha.le ha.cap
  have HCU := Aside0.mk fun W (hW : Below (boxed w t).heap.size (boxed w t) W) => compare_any t ht A c b U cu high W (HT.out.below hW) (KA.out.below hW).rd ha.byt ha.le ha.cap (KU.out.below hW).rd hh.byt hh.le hh.cap
  have HCL := Aside0.mk fun W (hW : Below (boxed w t).heap.size (boxed w t) W) => compare_any t ht A c b L cl low W (HT.out.below hW) (KA.out.below hW).rd ha.byt ha.le ha.cap (KL.out.below hW).rd hl.byt hl.le hl.cap
  have HBL := Aside0.mk fun W (hW : Below (boxed w t).heap.size (boxed w t) W) => bound_any t ht w.heap.size L cl low W (HT.out.below hW) (boxed_cell w t W hW) (KL.out.below hW).rd hl.byt hl.le hl.cap
  have HBU := Aside0.mk fun W (hW : Below (boxed w t).heap.size (boxed w t) W) => bound_any t ht w.heap.size U cu high W (HT.out.below hW) (boxed_cell w t W hW) (KU.out.below hW).rd hh.byt hh.le hh.cap
  clear h ha hl hh HT KA KL KU
  simp only [hp] at HP
  obtain ⟨⟨v1, v2⟩, hv⟩ : ∃ v, cmpC t b b = v := ⟨_, rfl⟩
  obtain ⟨⟨x1, x2⟩, hx⟩ : ∃ v, cmpC t b high = v := ⟨_, rfl⟩
  obtain ⟨⟨y1, y2⟩, hy⟩ : ∃ v, cmpC t b low = v := ⟨_, rfl⟩
  simp only [hv] at HC0 h2
  simp only [hx] at HCU hx0
  simp only [hy] at HCL hy0
  clear hp hv hx hy
  subst h2
  simp only [hbl, decide_true] at HBL
  simp only [hbh, decide_true] at HBU
  have hx1 : decide ((0 : Int) < x1) = false := by simpa using hx0
  have hy1 : decide (y1 < (0 : Int)) = false := by simpa using hy0
  generalize b.length = nb at *
  generalize low.length = nl at *
  generalize high.length = nh at *
  go_enter Tryd.func78, Tryd.ntmps78
  go_wp2_with (first
    | (go_at_call 115; (with_reducible refine (HP.out _ HB.out).mono ?_); rintro e w1 ⟨rfl, hb⟩; replace HB := Aside0.mk (HB.out.trans (hb.mono HB.out.size)); have hc1 := boxed_cell w t _ HB.out; clear hb)
    | (go_at_call 117; (with_reducible refine (HC0.out _ HB.out).mono ?_); rintro e w2 ⟨rfl, hb⟩; replace HB := Aside0.mk (HB.out.trans (hb.mono HB.out.size)); have hc2 := boxed_cell w t _ HB.out; clear hb)
    | (go_at_call 117; (with_reducible refine (HCU.out _ HB.out).mono ?_); rintro e w3 ⟨rfl, hb⟩; replace HB := Aside0.mk (HB.out.trans (hb.mono HB.out.size)); have hc3 := boxed_cell w t _ HB.out; clear hb)
    | (go_at_call 117; (with_reducible refine (HCL.out _ HB.out).mono ?_); rintro e w4 ⟨rfl, hb⟩; replace HB := Aside0.mk (HB.out.trans (hb.mono HB.out.size)); have hc4 := boxed_cell w t _ HB.out; clear hb)
    | (go_at_call 116; (with_reducible refine (HBL.out _ HB.out).mono ?_); rintro e w5 ⟨rfl, hb⟩; replace HB := Aside0.mk (HB.out.trans (hb.mono HB.out.size)); have hc5 := boxed_cell w t _ HB.out; clear hb)
    | (go_at_call 116; (with_reducible refine (HBU.out _ HB.out).mono ?_); rintro e w6 ⟨rfl, hb⟩; replace HB := Aside0.mk (HB.out.trans (hb.mono HB.out.size)); have hc6 := boxed_cell w t _ HB.out; clear hb))
  go_ret
  exact ⟨rfl, hb0.trans (HB.out.mono (by simp))⟩
set_option maxRecDepth 100000 in
set_option maxHeartbeats 2000000 in
theorem check_7 (ht : 0 ≤ t ∧ t < 256) (h : Tbl w) (ha : Arg w A c b) (hl : Arg w L cl low) (hh : Arg w U cu high) (hp : plainC t b = 0) (h2 : (cmpC t b b).2 = true) (hbl : ¬ bndC t low) (hbh : bndC t high) (hx0 : ¬ 0 < (cmpC t b high).1) :
    Calls Tryd.prog 78 #[.int .u8 t, .slice A b.length c, .slice L low.length cl, .slice U high.length cu] w (ChkSaid w 0) := by
  have hb0 : Below w.heap.size w (boxed w t) := below_alloc (Below.refl _ _) _
  have HT := Aside0.mk (h.below hb0)
  have KA := Aside0.mk (ha.below hb0)
  have KL := Aside0.mk (hl.below hb0)
  have KU := Aside0.mk (hh.below hb0)
  have HB := Aside0.mk (Below.refl (boxed w t).heap.size (boxed w t))
  have HP := Aside0.mk fun W (hW : Below (boxed w t).heap.size (boxed w t) W) => plain_any t ht A c b W (HT.out.below hW) (KA.out.below hW).rd ha.byt ha.le ha.cap
  have HC0 := Aside0.mk fun W (hW : Below (boxed w t).heap.size (boxed w t) W) => compare_any t ht A c b A c b W (HT.out.below hW) (KA.out.below hW).rd ha.byt ha.le ha.cap (KA.out.below hW).rd ha.byt ha.le ha.cap
  have HCU := Aside0.mk fun W (hW : Below (boxed w t).heap.size (boxed w t) W) => compare_any t ht A c b U cu high W (HT.out.below hW) (KA.out.below hW).rd ha.byt ha.le ha.cap (KU.out.below hW).rd hh.byt hh.le hh.cap
  have HCL := Aside0.mk fun W (hW : Below (boxed w t).heap.size (boxed w t) W) => compare_any t ht A c b L cl low W (HT.out.below hW) (KA.out.below hW).rd ha.byt ha.le ha.cap (KL.out.below hW).rd hl.byt hl.le hl.cap
  have HBL := Aside0.mk fun W (hW : Below (boxed w t).heap.size (boxed w t) W) => bound_any t ht w.heap.size L cl low W (HT.out.below hW) (boxed_cell w t W hW) (KL.out.below hW).rd hl.byt hl.le hl.cap
  have HBU := Aside0.mk fun W (hW : Below (boxed w t).heap.size (boxed w t) W) => bound_any t ht w.heap.size U cu high W (HT.out.below hW) (boxed_cell w t W hW) (KU.out.below hW).rd hh.byt hh.le hh.cap
  clear h ha hl hh HT KA KL KU
  simp only [hp] at HP
  obtain ⟨⟨v1, v2⟩, hv⟩ : ∃ v, cmpC t b b = v := ⟨_, rfl⟩
  obtain ⟨⟨x1, x2⟩, hx⟩ : ∃ v, cmpC t b high = v := ⟨_, rfl⟩
  obtain ⟨⟨y1, y2⟩, hy⟩ : ∃ v, cmpC t b low = v := ⟨_, rfl⟩
  simp only [hv] at HC0 h2
  simp only [hx] at HCU hx0
  simp only [hy] at HCL
  clear hp hv hx hy
  subst h2
  simp only [hbl, decide_false] at HBL
  simp only [hbh, decide_true] at HBU
  have hx1 : decide ((0 : Int) < x1) = false := by simpa using hx0
  generalize b.length = nb at *
  generalize low.length = nl at *
  generalize high.length = nh at *
  go_enter Tryd.func78, Tryd.ntmps78
  go_wp2_with (first
    | (go_at_call 115; (with_reducible refine (HP.out _ HB.out).mono ?_); rintro e w1 ⟨rfl, hb⟩; replace HB := Aside0.mk (HB.out.trans (hb.mono HB.out.size)); have hc1 := boxed_cell w t _ HB.out; clear hb)
    | (go_at_call 117; (with_reducible refine (HC0.out _ HB.out).mono ?_); rintro e w2 ⟨rfl, hb⟩; replace HB := Aside0.mk (HB.out.trans (hb.mono HB.out.size)); have hc2 := boxed_cell w t _ HB.out; clear hb)
    | (go_at_call 117; (with_reducible refine (HCU.out _ HB.out).mono ?_); rintro e w3 ⟨rfl, hb⟩; replace HB := Aside0.mk (HB.out.trans (hb.mono HB.out.size)); have hc3 := boxed_cell w t _ HB.out; clear hb)
    | (go_at_call 117; (with_reducible refine (HCL.out _ HB.out).mono ?_); rintro e w4 ⟨rfl, hb⟩; replace HB := Aside0.mk (HB.out.trans (hb.mono HB.out.size)); have hc4 := boxed_cell w t _ HB.out; clear hb)
    | (go_at_call 116; (with_reducible refine (HBL.out _ HB.out).mono ?_); rintro e w5 ⟨rfl, hb⟩; replace HB := Aside0.mk (HB.out.trans (hb.mono HB.out.size)); have hc5 := boxed_cell w t _ HB.out; clear hb)
    | (go_at_call 116; (with_reducible refine (HBU.out _ HB.out).mono ?_); rintro e w6 ⟨rfl, hb⟩; replace HB := Aside0.mk (HB.out.trans (hb.mono HB.out.size)); have hc6 := boxed_cell w t _ HB.out; clear hb))
  go_ret
  exact ⟨rfl, hb0.trans (HB.out.mono (by simp))⟩
set_option maxRecDepth 100000 in
set_option maxHeartbeats 2000000 in
theorem check_8 (ht : 0 ≤ t ∧ t < 256) (h : Tbl w) (ha : Arg w A c b) (hl : Arg w L cl low) (hh : Arg w U cu high) (hp : plainC t b = 0) (h2 : (cmpC t b b).2 = true) (hbl : bndC t low) (hbh : ¬ bndC t high) (hy0 : (cmpC t b low).1 < 0) :
    Calls Tryd.prog 78 #[.int .u8 t, .slice A b.length c, .slice L low.length cl, .slice U high.length cu] w (ChkSaid w 0x06090032) := by
  have hb0 : Below w.heap.size w (boxed w t) := below_alloc (Below.refl _ _) _
  have HT := Aside0.mk (h.below hb0)
  have KA := Aside0.mk (ha.below hb0)
  have KL := Aside0.mk (hl.below hb0)
  have KU := Aside0.mk (hh.below hb0)
  have HB := Aside0.mk (Below.refl (boxed w t).heap.size (boxed w t))
  have HP := Aside0.mk fun W (hW : Below (boxed w t).heap.size (boxed w t) W) => plain_any t ht A c b W (HT.out.below hW) (KA.out.below hW).rd ha.byt ha.le ha.cap
  have HC0 := Aside0.mk fun W (hW : Below (boxed w t).heap.size (boxed w t) W) => compare_any t ht A c b A c b W (HT.out.below hW) (KA.out.below hW).rd ha.byt ha.le ha.cap (KA.out.below hW).rd ha.byt ha.le ha.cap
  have HCU := Aside0.mk fun W (hW : Below (boxed w t).heap.size (boxed w t) W) => compare_any t ht A c b U cu high W (HT.out.below hW) (KA.out.below hW).rd ha.byt ha.le ha.cap (KU.out.below hW).rd hh.byt hh.le hh.cap
  have HCL := Aside0.mk fun W (hW : Below (boxed w t).heap.size (boxed w t) W) => compare_any t ht A c b L cl low W (HT.out.below hW) (KA.out.below hW).rd ha.byt ha.le ha.cap (KL.out.below hW).rd hl.byt hl.le hl.cap
  have HBL := Aside0.mk fun W (hW : Below (boxed w t).heap.size (boxed w t) W) => bound_any t ht w.heap.size L cl low W (HT.out.below hW) (boxed_cell w t W hW) (KL.out.below hW).rd hl.byt hl.le hl.cap
  have HBU := Aside0.mk fun W (hW : Below (boxed w t).heap.size (boxed w t) W) => bound_any t ht w.heap.size U cu high W (HT.out.below hW) (boxed_cell w t W hW) (KU.out.below hW).rd hh.byt hh.le hh.cap
  clear h ha hl hh HT KA KL KU
  simp only [hp] at HP
  obtain ⟨⟨v1, v2⟩, hv⟩ : ∃ v, cmpC t b b = v := ⟨_, rfl⟩
  obtain ⟨⟨x1, x2⟩, hx⟩ : ∃ v, cmpC t b high = v := ⟨_, rfl⟩
  obtain ⟨⟨y1, y2⟩, hy⟩ : ∃ v, cmpC t b low = v := ⟨_, rfl⟩
  simp only [hv] at HC0 h2
  simp only [hx] at HCU
  simp only [hy] at HCL hy0
  clear hp hv hx hy
  subst h2
  simp only [hbl, decide_true] at HBL
  simp only [hbh, decide_false] at HBU
  have hy1 : decide (y1 < (0 : Int)) = true := by simpa using hy0
  generalize b.length = nb at *
  generalize low.length = nl at *
  generalize high.length = nh at *
  go_enter Tryd.func78, Tryd.ntmps78
  go_wp2_with (first
    | (go_at_call 115; (with_reducible refine (HP.out _ HB.out).mono ?_); rintro e w1 ⟨rfl, hb⟩; replace HB := Aside0.mk (HB.out.trans (hb.mono HB.out.size)); have hc1 := boxed_cell w t _ HB.out; clear hb)
    | (go_at_call 117; (with_reducible refine (HC0.out _ HB.out).mono ?_); rintro e w2 ⟨rfl, hb⟩; replace HB := Aside0.mk (HB.out.trans (hb.mono HB.out.size)); have hc2 := boxed_cell w t _ HB.out; clear hb)
    | (go_at_call 117; (with_reducible refine (HCU.out _ HB.out).mono ?_); rintro e w3 ⟨rfl, hb⟩; replace HB := Aside0.mk (HB.out.trans (hb.mono HB.out.size)); have hc3 := boxed_cell w t _ HB.out; clear hb)
    | (go_at_call 117; (with_reducible refine (HCL.out _ HB.out).mono ?_); rintro e w4 ⟨rfl, hb⟩; replace HB := Aside0.mk (HB.out.trans (hb.mono HB.out.size)); have hc4 := boxed_cell w t _ HB.out; clear hb)
    | (go_at_call 116; (with_reducible refine (HBL.out _ HB.out).mono ?_); rintro e w5 ⟨rfl, hb⟩; replace HB := Aside0.mk (HB.out.trans (hb.mono HB.out.size)); have hc5 := boxed_cell w t _ HB.out; clear hb)
    | (go_at_call 116; (with_reducible refine (HBU.out _ HB.out).mono ?_); rintro e w6 ⟨rfl, hb⟩; replace HB := Aside0.mk (HB.out.trans (hb.mono HB.out.size)); have hc6 := boxed_cell w t _ HB.out; clear hb))
  go_ret
  exact ⟨rfl, hb0.trans (HB.out.mono (by simp))⟩
set_option maxRecDepth 100000 in
set_option maxHeartbeats 2000000 in
theorem check_9 (ht : 0 ≤ t ∧ t < 256) (h : Tbl w) (ha : Arg w A c b) (hl : Arg w L cl low) (hh : Arg w U cu high) (hp : plainC t b = 0) (h2 : (cmpC t b b).2 = true) (hbl : bndC t low) (hbh : ¬ bndC t high) (hy0 : ¬ (cmpC t b low).1 < 0) :
    Calls Tryd.prog 78 #[.int .u8 t, .slice A b.length c, .slice L low.length cl, .slice U high.length cu] w (ChkSaid w 0) := by
  have hb0 : Below w.heap.size w (boxed w t) := below_alloc (Below.refl _ _) _
  have HT := Aside0.mk (h.below hb0)
  have KA := Aside0.mk (ha.below hb0)
  have KL := Aside0.mk (hl.below hb0)
  have KU := Aside0.mk (hh.below hb0)
  have HB := Aside0.mk (Below.refl (boxed w t).heap.size (boxed w t))
  have HP := Aside0.mk fun W (hW : Below (boxed w t).heap.size (boxed w t) W) => plain_any t ht A c b W (HT.out.below hW) (KA.out.below hW).rd ha.byt ha.le ha.cap
  have HC0 := Aside0.mk fun W (hW : Below (boxed w t).heap.size (boxed w t) W) => compare_any t ht A c b A c b W (HT.out.below hW) (KA.out.below hW).rd ha.byt ha.le ha.cap (KA.out.below hW).rd ha.byt ha.le ha.cap
  have HCU := Aside0.mk fun W (hW : Below (boxed w t).heap.size (boxed w t) W) => compare_any t ht A c b U cu high W (HT.out.below hW) (KA.out.below hW).rd ha.byt ha.le ha.cap (KU.out.below hW).rd hh.byt hh.le hh.cap
  have HCL := Aside0.mk fun W (hW : Below (boxed w t).heap.size (boxed w t) W) => compare_any t ht A c b L cl low W (HT.out.below hW) (KA.out.below hW).rd ha.byt ha.le ha.cap (KL.out.below hW).rd hl.byt hl.le hl.cap
  have HBL := Aside0.mk fun W (hW : Below (boxed w t).heap.size (boxed w t) W) => bound_any t ht w.heap.size L cl low W (HT.out.below hW) (boxed_cell w t W hW) (KL.out.below hW).rd hl.byt hl.le hl.cap
  have HBU := Aside0.mk fun W (hW : Below (boxed w t).heap.size (boxed w t) W) => bound_any t ht w.heap.size U cu high W (HT.out.below hW) (boxed_cell w t W hW) (KU.out.below hW).rd hh.byt hh.le hh.cap
  clear h ha hl hh HT KA KL KU
  simp only [hp] at HP
  obtain ⟨⟨v1, v2⟩, hv⟩ : ∃ v, cmpC t b b = v := ⟨_, rfl⟩
  obtain ⟨⟨x1, x2⟩, hx⟩ : ∃ v, cmpC t b high = v := ⟨_, rfl⟩
  obtain ⟨⟨y1, y2⟩, hy⟩ : ∃ v, cmpC t b low = v := ⟨_, rfl⟩
  simp only [hv] at HC0 h2
  simp only [hx] at HCU
  simp only [hy] at HCL hy0
  clear hp hv hx hy
  subst h2
  simp only [hbl, decide_true] at HBL
  simp only [hbh, decide_false] at HBU
  have hy1 : decide (y1 < (0 : Int)) = false := by simpa using hy0
  generalize b.length = nb at *
  generalize low.length = nl at *
  generalize high.length = nh at *
  go_enter Tryd.func78, Tryd.ntmps78
  go_wp2_with (first
    | (go_at_call 115; (with_reducible refine (HP.out _ HB.out).mono ?_); rintro e w1 ⟨rfl, hb⟩; replace HB := Aside0.mk (HB.out.trans (hb.mono HB.out.size)); have hc1 := boxed_cell w t _ HB.out; clear hb)
    | (go_at_call 117; (with_reducible refine (HC0.out _ HB.out).mono ?_); rintro e w2 ⟨rfl, hb⟩; replace HB := Aside0.mk (HB.out.trans (hb.mono HB.out.size)); have hc2 := boxed_cell w t _ HB.out; clear hb)
    | (go_at_call 117; (with_reducible refine (HCU.out _ HB.out).mono ?_); rintro e w3 ⟨rfl, hb⟩; replace HB := Aside0.mk (HB.out.trans (hb.mono HB.out.size)); have hc3 := boxed_cell w t _ HB.out; clear hb)
    | (go_at_call 117; (with_reducible refine (HCL.out _ HB.out).mono ?_); rintro e w4 ⟨rfl, hb⟩; replace HB := Aside0.mk (HB.out.trans (hb.mono HB.out.size)); have hc4 := boxed_cell w t _ HB.out; clear hb)
    | (go_at_call 116; (with_reducible refine (HBL.out _ HB.out).mono ?_); rintro e w5 ⟨rfl, hb⟩; replace HB := Aside0.mk (HB.out.trans (hb.mono HB.out.size)); have hc5 := boxed_cell w t _ HB.out; clear hb)
    | (go_at_call 116; (with_reducible refine (HBU.out _ HB.out).mono ?_); rintro e w6 ⟨rfl, hb⟩; replace HB := Aside0.mk (HB.out.trans (hb.mono HB.out.size)); have hc6 := boxed_cell w t _ HB.out; clear hb))
  go_ret
  exact ⟨rfl, hb0.trans (HB.out.mono (by simp))⟩
set_option maxRecDepth 100000 in
set_option maxHeartbeats 2000000 in
theorem check_10 (ht : 0 ≤ t ∧ t < 256) (h : Tbl w) (ha : Arg w A c b) (hl : Arg w L cl low) (hh : Arg w U cu high) (hp : plainC t b = 0) (h2 : (cmpC t b b).2 = true) (hbl : ¬ bndC t low) (hbh : ¬ bndC t high) :
    Calls Tryd.prog 78 #[.int .u8 t, .slice A b.length c, .slice L low.length cl, .slice U high.length cu] w (ChkSaid w 0) := by
  have hb0 : Below w.heap.size w (boxed w t) := below_alloc (Below.refl _ _) _
  have HT := Aside0.mk (h.below hb0)
  have KA := Aside0.mk (ha.below hb0)
  have KL := Aside0.mk (hl.below hb0)
  have KU := Aside0.mk (hh.below hb0)
  have HB := Aside0.mk (Below.refl (boxed w t).heap.size (boxed w t))
  have HP := Aside0.mk fun W (hW : Below (boxed w t).heap.size (boxed w t) W) => plain_any t ht A c b W (HT.out.below hW) (KA.out.below hW).rd ha.byt ha.le ha.cap
  have HC0 := Aside0.mk fun W (hW : Below (boxed w t).heap.size (boxed w t) W) => compare_any t ht A c b A c b W (HT.out.below hW) (KA.out.below hW).rd ha.byt ha.le ha.cap (KA.out.below hW).rd ha.byt ha.le ha.cap
  have HCU := Aside0.mk fun W (hW : Below (boxed w t).heap.size (boxed w t) W) => compare_any t ht A c b U cu high W (HT.out.below hW) (KA.out.below hW).rd ha.byt ha.le ha.cap (KU.out.below hW).rd hh.byt hh.le hh.cap
  have HCL := Aside0.mk fun W (hW : Below (boxed w t).heap.size (boxed w t) W) => compare_any t ht A c b L cl low W (HT.out.below hW) (KA.out.below hW).rd ha.byt ha.le ha.cap (KL.out.below hW).rd hl.byt hl.le hl.cap
  have HBL := Aside0.mk fun W (hW : Below (boxed w t).heap.size (boxed w t) W) => bound_any t ht w.heap.size L cl low W (HT.out.below hW) (boxed_cell w t W hW) (KL.out.below hW).rd hl.byt hl.le hl.cap
  have HBU := Aside0.mk fun W (hW : Below (boxed w t).heap.size (boxed w t) W) => bound_any t ht w.heap.size U cu high W (HT.out.below hW) (boxed_cell w t W hW) (KU.out.below hW).rd hh.byt hh.le hh.cap
  clear h ha hl hh HT KA KL KU
  simp only [hp] at HP
  obtain ⟨⟨v1, v2⟩, hv⟩ : ∃ v, cmpC t b b = v := ⟨_, rfl⟩
  obtain ⟨⟨x1, x2⟩, hx⟩ : ∃ v, cmpC t b high = v := ⟨_, rfl⟩
  obtain ⟨⟨y1, y2⟩, hy⟩ : ∃ v, cmpC t b low = v := ⟨_, rfl⟩
  simp only [hv] at HC0 h2
  simp only [hx] at HCU
  simp only [hy] at HCL
  clear hp hv hx hy
  subst h2
  simp only [hbl, decide_false] at HBL
  simp only [hbh, decide_false] at HBU
  generalize b.length = nb at *
  generalize low.length = nl at *
  generalize high.length = nh at *
  go_enter Tryd.func78, Tryd.ntmps78
  go_wp2_with (first
    | (go_at_call 115; (with_reducible refine (HP.out _ HB.out).mono ?_); rintro e w1 ⟨rfl, hb⟩; replace HB := Aside0.mk (HB.out.trans (hb.mono HB.out.size)); have hc1 := boxed_cell w t _ HB.out; clear hb)
    | (go_at_call 117; (with_reducible refine (HC0.out _ HB.out).mono ?_); rintro e w2 ⟨rfl, hb⟩; replace HB := Aside0.mk (HB.out.trans (hb.mono HB.out.size)); have hc2 := boxed_cell w t _ HB.out; clear hb)
    | (go_at_call 117; (with_reducible refine (HCU.out _ HB.out).mono ?_); rintro e w3 ⟨rfl, hb⟩; replace HB := Aside0.mk (HB.out.trans (hb.mono HB.out.size)); have hc3 := boxed_cell w t _ HB.out; clear hb)
    | (go_at_call 117; (with_reducible refine (HCL.out _ HB.out).mono ?_); rintro e w4 ⟨rfl, hb⟩; replace HB := Aside0.mk (HB.out.trans (hb.mono HB.out.size)); have hc4 := boxed_cell w t _ HB.out; clear hb)
    | (go_at_call 116; (with_reducible refine (HBL.out _ HB.out).mono ?_); rintro e w5 ⟨rfl, hb⟩; replace HB := Aside0.mk (HB.out.trans (hb.mono HB.out.size)); have hc5 := boxed_cell w t _ HB.out; clear hb)
    | (go_at_call 116; (with_reducible refine (HBU.out _ HB.out).mono ?_); rintro e w6 ⟨rfl, hb⟩; replace HB := Aside0.mk (HB.out.trans (hb.mono HB.out.size)); have hc6 := boxed_cell w t _ HB.out; clear hb))
  go_ret
  exact ⟨rfl, hb0.trans (HB.out.mono (by simp))⟩
theorem check_any (t : Int) (ht : 0 ≤ t ∧ t < 256) (A : Option Addr) (c : Nat) (b : List Int) (L : Option Addr) (cl : Nat) (low : List Int) (U : Option Addr) (cu : Nat) (high : List Int) (w : World)
    (h : Tbl w) (ha : Arg w A c b) (hl : Arg w L cl low) (hh : Arg w U cu high) :
    Calls Tryd.prog 78 #[.int .u8 t, .slice A b.length c, .slice L low.length cl, .slice U high.length cu] w (ChkSaid w (chkC t b low high)) := by
  by_cases hp : plainC t b = 0
  · unfold chkC
    rw [if_neg (by simp [hp])]
    by_cases hbl : bndC t low <;> by_cases hbh : bndC t high <;> cases h2 : (cmpC t b b).2
    · rw [if_pos ⟨rfl, .inl hbl⟩]
      exact check_1 t A c b L cl low U cu high w ht h ha hl hh hp h2 hbl
    · rw [if_neg (by simp)]
      by_cases hx : 0 < (cmpC t b high).1
      · rw [if_pos ⟨hbh, hx⟩]
        exact check_4 t A c b L cl low U cu high w ht h ha hl hh hp h2 hbh hx
      · rw [if_neg (fun e => hx e.2)]
        by_cases hy : (cmpC t b low).1 < 0
        · rw [if_pos ⟨hbl, hy⟩]
          exact check_5 t A c b L cl low U cu high w ht h ha hl hh hp h2 hbl hbh hx hy
        · rw [if_neg (fun e => hy e.2)]
          exact check_6 t A c b L cl low U cu high w ht h ha hl hh hp h2 hbl hbh hx hy
    · rw [if_pos ⟨rfl, .inl hbl⟩]
      exact check_1 t A c b L cl low U cu high w ht h ha hl hh hp h2 hbl
    · rw [if_neg (by simp), if_neg (fun e => hbh e.1)]
      by_cases hy : (cmpC t b low).1 < 0
      · rw [if_pos ⟨hbl, hy⟩]
        exact check_8 t A c b L cl low U cu high w ht h ha hl hh hp h2 hbl hbh hy
      · rw [if_neg (fun e => hy e.2)]
        exact check_9 t A c b L cl low U cu high w ht h ha hl hh hp h2 hbl hbh hy
    · rw [if_pos ⟨rfl, .inr hbh⟩]
      exact check_2 t A c b L cl low U cu high w ht h ha hl hh hp h2 hbl hbh
    · rw [if_neg (by simp)]
      by_cases hx : 0 < (cmpC t b high).1
      · rw [if_pos ⟨hbh, hx⟩]
        exact check_4 t A c b L cl low U cu high w ht h ha hl hh hp h2 hbh hx
      · rw [if_neg (fun e => hx e.2), if_neg (fun e => hbl e.1)]
        exact check_7 t A c b L cl low U cu high w ht h ha hl hh hp h2 hbl hbh hx
    · rw [if_neg (fun e => e.2.elim hbl hbh), if_neg (fun e => hbh e.1), if_neg (fun e => hbl e.1)]
      exact check_3 t A c b L cl low U cu high w ht h ha hl hh hp h2 hbl hbh
    · rw [if_neg (by simp), if_neg (fun e => hbh e.1), if_neg (fun e => hbl e.1)]
      exact check_10 t A c b L cl low U cu high w ht h ha hl hh hp h2 hbl hbh
  · unfold chkC
    rw [if_pos hp]
    exact check_p t A c b L cl low U cu high w ht h ha hl hh hp
end
end Go.Proofs.YtokebpeplopjhaaDoor.Mp
namespace Go.Proofs.YtokebpeplopjhaaDoor.Mp

/-- Bit k of bytes. -/
def bit (v : List Int) (k : Nat) : Int := v[k / 8]?.getD 0 / 2 ^ (k % 8) % 2
def bitsL (v : List Int) (at_ n : Nat) : List Int := (List.range n).map fun k => bit v (at_ + k)
def byteP (t : List Int) (i : Nat) : Int :=
  t[8 * i]?.getD 0 + 2 * t[8 * i + 1]?.getD 0 + 4 * t[8 * i + 2]?.getD 0 + 8 * t[8 * i + 3]?.getD 0 + 16 * t[8 * i + 4]?.getD 0 + 32 * t[8 * i + 5]?.getD 0 + 64 * t[8 * i + 6]?.getD 0 + 128 * t[8 * i + 7]?.getD 0
/-- n bytes out of bits. -/
def pkL (t : List Int) (n : Nat) : List Int := (List.range n).map (byteP t)
def Bits (t : List Int) : Prop := ∀ x ∈ t, x = 0 ∨ x = 1
theorem bit_01 (v : List Int) (k : Nat) : bit v k = 0 ∨ bit v k = 1 := by unfold bit; omega
theorem bits_bitsL (v : List Int) (a n : Nat) : Bits (bitsL v a n) := by
  intro x hx
  obtain ⟨k, _, rfl⟩ := List.mem_map.1 hx
  exact bit_01 _ _
theorem bitsL_length (v : List Int) (a n : Nat) : (bitsL v a n).length = n := by simp [bitsL]
theorem pkL_length (t : List Int) (n : Nat) : (pkL t n).length = n := by simp [pkL]
theorem pkL_get (t : List Int) (n i : Nat) (h : i < n) : (pkL t n)[i]?.getD 0 = byteP t i := by simp [pkL, h]
theorem bits_get {t : List Int} (h : Bits t) (m : Nat) : t[m]?.getD 0 = 0 ∨ t[m]?.getD 0 = 1 := by
  by_cases hm : m < t.length
  · rw [List.getElem?_eq_getElem hm]
    exact h _ (List.getElem_mem hm)
  · rw [List.getElem?_eq_none (by omega)]
    exact .inl rfl
theorem bits_bnd {t : List Int} (h : Bits t) (m : Nat) : 0 ≤ t[m]?.getD 0 ∧ t[m]?.getD 0 ≤ 1 := by
  rcases bits_get h m with e | e <;> rw [e] <;> decide
theorem snoc_get (t : List Int) (x : Int) (m : Nat) : (t ++ [x])[m]?.getD 0 = t[m]?.getD 0 + if m = t.length then x else 0 := by
  rcases Nat.lt_trichotomy m t.length with h | h | h
  · rw [List.getElem?_append_left h, if_neg (by omega), Int.add_zero]
  · subst h
    simp
  · rw [List.getElem?_eq_none (by simp; omega), List.getElem?_eq_none (by omega), if_neg (by omega)]
    rfl
theorem byteP_snoc (t : List Int) (x : Int) (i : Nat) : byteP (t ++ [x]) i = byteP t i + if i = t.length / 8 then x * 2 ^ (t.length % 8) else 0 := by
  unfold byteP
  simp only [snoc_get]
  obtain ⟨q, r, hr, hp⟩ : ∃ q r, r < 8 ∧ t.length = 8 * q + r := ⟨t.length / 8, t.length % 8, Nat.mod_lt _ (by omega), by omega⟩
  rw [hp]
  have e1 : (8 * q + r) / 8 = q := by omega
  have e2 : (8 * q + r) % 8 = r := by omega
  rw [e1, e2]
  by_cases hi : i = q
  · subst hi
    match r, hr with
    | 0, _ => simp; omega
    | 1, _ => simp; omega
    | 2, _ => simp; omega
    | 3, _ => simp; omega
    | 4, _ => simp; omega
    | 5, _ => simp; omega
    | 6, _ => simp; omega
    | 7, _ => simp; omega
  · rw [if_neg hi]
    repeat rw [if_neg (by omega)]
    omega
theorem byteP_lt {t : List Int} (h : Bits t) (i : Nat) : 0 ≤ byteP t i ∧ byteP t i < 256 := by
  unfold byteP
  have := bits_bnd h (8 * i); have := bits_bnd h (8 * i + 1); have := bits_bnd h (8 * i + 2); have := bits_bnd h (8 * i + 3)
  have := bits_bnd h (8 * i + 4); have := bits_bnd h (8 * i + 5); have := bits_bnd h (8 * i + 6); have := bits_bnd h (8 * i + 7)
  omega
theorem pkL_byt {t : List Int} (h : Bits t) (n : Nat) : Byt (pkL t n) := by
  intro x hx
  obtain ⟨i, _, rfl⟩ := List.mem_map.1 hx
  exact byteP_lt h i
theorem bit_sum (a0 a1 a2 a3 a4 a5 a6 a7 : Int) (h0 : 0 ≤ a0 ∧ a0 ≤ 1) (h1 : 0 ≤ a1 ∧ a1 ≤ 1) (h2 : 0 ≤ a2 ∧ a2 ≤ 1) (h3 : 0 ≤ a3 ∧ a3 ≤ 1) (h4 : 0 ≤ a4 ∧ a4 ≤ 1) (h5 : 0 ≤ a5 ∧ a5 ≤ 1) (h6 : 0 ≤ a6 ∧ a6 ≤ 1) (h7 : 0 ≤ a7 ∧ a7 ≤ 1) (S : Int) (hS : S = a0 + 2 * a1 + 4 * a2 + 8 * a3 + 16 * a4 + 32 * a5 + 64 * a6 + 128 * a7) :
    S / 1 % 2 = a0 ∧ S / 2 % 2 = a1 ∧ S / 4 % 2 = a2 ∧ S / 8 % 2 = a3 ∧ S / 16 % 2 = a4 ∧ S / 32 % 2 = a5 ∧ S / 64 % 2 = a6 ∧ S / 128 % 2 = a7 := by
  refine ⟨?_, ?_, ?_, ?_, ?_, ?_, ?_, ?_⟩ <;> omega
theorem bit_byteP {t : List Int} (h : Bits t) (i r : Nat) (hr : r < 8) : byteP t i / 2 ^ r % 2 = t[8 * i + r]?.getD 0 := by
  obtain ⟨q0, q1, q2, q3, q4, q5, q6, q7⟩ := bit_sum _ _ _ _ _ _ _ _ (bits_bnd h (8 * i)) (bits_bnd h (8 * i + 1)) (bits_bnd h (8 * i + 2)) (bits_bnd h (8 * i + 3)) (bits_bnd h (8 * i + 4)) (bits_bnd h (8 * i + 5)) (bits_bnd h (8 * i + 6)) (bits_bnd h (8 * i + 7)) (byteP t i) rfl
  match r, hr with
  | 0, _ => exact q0
  | 1, _ => exact q1
  | 2, _ => exact q2
  | 3, _ => exact q3
  | 4, _ => exact q4
  | 5, _ => exact q5
  | 6, _ => exact q6
  | 7, _ => exact q7
theorem bit_pkL {t : List Int} (h : Bits t) {n k : Nat} (hk : k < 8 * n) : bit (pkL t n) k = t[k]?.getD 0 := by
  unfold bit
  rw [pkL_get _ _ _ (by omega), bit_byteP h _ _ (Nat.mod_lt _ (by omega))]
  congr 2
  omega
theorem pkL_set (t : List Int) (x : Int) (n : Nat) (_ : t.length / 8 < n) : (pkL t n).set (t.length / 8) (byteP t (t.length / 8) + x * 2 ^ (t.length % 8)) = pkL (t ++ [x]) n := by
  apply List.ext_getElem
  · simp [pkL]
  · intro i h1 h2
    rw [List.getElem_set]
    simp only [pkL, List.getElem_map, List.getElem_range, byteP_snoc]
    by_cases hi : t.length / 8 = i
    · subst hi
      simp
    · rw [if_neg hi, if_neg (fun e => hi e.symm), Int.add_zero]
theorem pkL_nil (n : Nat) : pkL [] n = List.replicate n 0 := by
  apply List.ext_getElem <;> simp [pkL, byteP]
theorem bitsL_succ (v : List Int) (a n : Nat) : bitsL v a (n + 1) = bitsL v a n ++ [bit v (a + n)] := by simp [bitsL, List.range_succ]
theorem bitsL_get (v : List Int) (a n k : Nat) : (bitsL v a n)[k]?.getD 0 = if k < n then bit v (a + k) else 0 := by
  by_cases h : k < n
  · simp [bitsL, h]
  · rw [List.getElem?_eq_none (by rw [bitsL_length]; omega), if_neg h]
    rfl
/-- Bytes out of all their bits. -/
theorem pkL_bits {v : List Int} (hv : Byt v) : pkL (bitsL v 0 (8 * v.length)) v.length = v := by
  apply List.ext_getElem
  · simp [pkL]
  · intro i h1 h2
    have hi : i < v.length := h2
    obtain ⟨y, hy⟩ : ∃ y, v[i] = y := ⟨_, rfl⟩
    have hb := hv v[i] (List.getElem_mem hi)
    have hq : ∀ r, r < 8 → (bitsL v 0 (8 * v.length))[8 * i + r]?.getD 0 = y / 2 ^ r % 2 := fun r hr => by
      rw [bitsL_get, if_pos (by omega)]
      unfold bit
      rw [show (0 + (8 * i + r)) / 8 = i by omega, show (0 + (8 * i + r)) % 8 = r by omega, List.getElem?_eq_getElem hi, hy]
      rfl
    simp only [pkL, List.getElem_map, List.getElem_range, byteP]
    have q0 := hq 0 (by omega)
    rw [Nat.add_zero] at q0
    rw [q0, hq 1 (by omega), hq 2 (by omega), hq 3 (by omega), hq 4 (by omega), hq 5 (by omega), hq 6 (by omega), hq 7 (by omega), hy]
    rw [hy] at hb
    omega
theorem pkL_one {x : Int} (h0 : 0 ≤ x) (h1 : x ≤ 1) : pkL (bitsL [x] 0 1) 1 = [x] := by
  have : x = 0 ∨ x = 1 := by omega
  rcases this with rfl | rfl <;> decide
end Go.Proofs.YtokebpeplopjhaaDoor.Mp
