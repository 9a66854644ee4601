/- The document's functions of layer 1, walked: nan, ordered. -/
import Derived.Test.YtcgcghldgomelaaGreatDoorRm
import Derived.Laws.Bits64b
namespace Go.Proofs.YtcgcghldgomelaaGreatDoor.Mp
open Go.RowKit Go.Shelf Go.Proofs.YtcgcghldgomelaaGreatDoor.Rng Go.Proofs.YtcgcghldgomelaaGreatDoorW.PrintWords Go.Proofs.YtcgcghldgomelaaGreatDoorW.PrintMore Go.Proofs.YtcgcghldgomelaaGreatDoorW.PrintLast

theorem num_64 {b : List Int} (hb : Byt b) (hl : b.length ≤ 8) : 0 ≤ num b ∧ num b < 18446744073709551616 := by
  refine ⟨num_nonneg hb, ?_⟩
  have h1 := num_lt hb
  by_cases h8 : b.length = 8
  · rw [h8] at h1
    exact h1
  · have h2 := Num.pow256 b.length (by omega)
    omega
theorem and_31 {N : Int} (h : 0 ≤ N ∧ N < 18446744073709551616) : bits .and .u64 N 2147483647 = N % 2147483648 := by
  obtain ⟨x, rfl⟩ := Int.eq_ofNat_of_zero_le h.1
  rw [show (2147483647 : Int) = ((2147483647 : Nat) : Int) from rfl, bits_and_u64_nat _ _ (by omega) (by omega), Nat.and_two_pow_sub_one_eq_mod x 31]
  omega
theorem and_63 {N : Int} (h : 0 ≤ N ∧ N < 18446744073709551616) : bits .and .u64 N 9223372036854775807 = N % 9223372036854775808 := by
  obtain ⟨x, rfl⟩ := Int.eq_ofNat_of_zero_le h.1
  rw [show (9223372036854775807 : Int) = ((9223372036854775807 : Nat) : Int) from rfl, bits_and_u64_nat _ _ (by omega) (by omega), Nat.and_two_pow_sub_one_eq_mod x 63]
  omega
set_option maxRecDepth 100000 in
set_option maxHeartbeats 2000000 in
theorem rnan_any (t : Int) (A : Option Addr) (c : Nat) (b : List Int) (w : World) (h : Arg w A c b) (hl : b.length ≤ 8) :
    Calls Tryz.prog 39 #[.int .u8 t, .slice A b.length c] w fun e w' => e = .returned (.bool (decide (nanR t b))) ∧ w' = w := by
  have HN := Aside0.mk (rnumber_any A c b w h hl)
  have hn := num_64 h.byt hl
  have e1 := and_31 hn
  have e2 := and_63 hn
  generalize b.length = n at HN ⊢
  have hd : decide (nanR t b) = (decide (t = 8 ∧ 2139095040 < num b % 2147483648) || decide (t = 17 ∧ 9218868437227405312 < num b % 9223372036854775808)) := by
    unfold nanR
    by_cases k1 : t = 8 ∧ 2139095040 < num b % 2147483648 <;> by_cases k2 : t = 17 ∧ 9218868437227405312 < num b % 9223372036854775808 <;> simp [k1, k2]
  rw [hd]
  generalize num b = N at HN e1 e2 hn ⊢
  clear hd h hl
  by_cases h8 : t = 8
  · subst h8
    by_cases hx : 2139095040 < N % 2147483648
    · rw [show (decide ((8 : Int) = 8 ∧ 2139095040 < N % 2147483648) || decide ((8 : Int) = 17 ∧ 9218868437227405312 < N % 9223372036854775808)) = true by simp [hx]]
      have dx := decide_eq_true hx
      go_enter Tryz.func39, Tryz.ntmps39
      go_wp2_with (go_at_call 58; refine HN.out.mono ?_; rintro e w1 ⟨rfl, rfl⟩)
      go_ret
      exact ⟨rfl, rfl⟩
    · rw [show (decide ((8 : Int) = 8 ∧ 2139095040 < N % 2147483648) || decide ((8 : Int) = 17 ∧ 9218868437227405312 < N % 9223372036854775808)) = false by simp [hx]]
      have dx := decide_eq_false hx
      go_enter Tryz.func39, Tryz.ntmps39
      go_wp2_with (go_at_call 58; refine HN.out.mono ?_; rintro e w1 ⟨rfl, rfl⟩)
      go_ret
      exact ⟨rfl, rfl⟩
  have g8 : (t == 8) = false := by simpa using h8
  by_cases h17 : t = 17
  · subst h17
    by_cases hx : 9218868437227405312 < N % 9223372036854775808
    · rw [show (decide ((17 : Int) = 8 ∧ 2139095040 < N % 2147483648) || decide ((17 : Int) = 17 ∧ 9218868437227405312 < N % 9223372036854775808)) = true by simp [hx]]
      have dx := decide_eq_true hx
      go_enter Tryz.func39, Tryz.ntmps39
      go_wp2_with (go_at_call 58; refine HN.out.mono ?_; rintro e w1 ⟨rfl, rfl⟩)
      go_ret
      exact ⟨rfl, rfl⟩
    · rw [show (decide ((17 : Int) = 8 ∧ 2139095040 < N % 2147483648) || decide ((17 : Int) = 17 ∧ 9218868437227405312 < N % 9223372036854775808)) = false by simp [hx]]
      have dx := decide_eq_false hx
      go_enter Tryz.func39, Tryz.ntmps39
      go_wp2_with (go_at_call 58; refine HN.out.mono ?_; rintro e w1 ⟨rfl, rfl⟩)
      go_ret
      exact ⟨rfl, rfl⟩
  have g17 : (t == 17) = false := by simpa using h17
  rw [show (decide (t = 8 ∧ 2139095040 < N % 2147483648) || decide (t = 17 ∧ 9218868437227405312 < N % 9223372036854775808)) = false by simp [h8, h17]]
  go_enter Tryz.func39, Tryz.ntmps39
  go_wp2_with (go_at_call 58; refine HN.out.mono ?_; rintro e w1 ⟨rfl, rfl⟩)
  go_ret
  exact ⟨rfl, rfl⟩
theorem plain_8 {t : Int} {b : List Int} (h : plainC t b = 0) (h6 : knd t ≠ 6) : b.length ≤ 8 := by
  have h1 := (plainC_0 h).2.2.1 h6
  have h2 := siz_cases t
  omega
set_option maxRecDepth 100000 in
set_option maxHeartbeats 2000000 in
theorem rordered_any (t : Int) (A : Option Addr) (c : Nat) (b : List Int) (w : World) (h : Arg w A c b) :
    Calls Tryz.prog 38 #[.int .u8 t, .slice A b.length c] w fun e w' => e = .returned (.bool (decide (ordR t b))) ∧ w' = w := by
  have HP := Aside0.mk (rplain_any t A c b w h)
  have HK := Aside0.mk (rkind_any t w)
  by_cases hp : plainC t b = 0
  · rw [hp] at HP
    by_cases h6 : knd t = 6
    · rw [show decide (ordR t b) = false from decide_eq_false fun k => k.2.1 h6]
      rw [h6] at HK
      generalize b.length = n at HP ⊢
      clear h
      go_enter Tryz.func38, Tryz.ntmps38
      go_wp2_with (first
        | (go_at_call 37; refine HP.out.mono ?_; rintro e w1 ⟨rfl, rfl⟩)
        | (go_at_call 25; refine HK.out.mono ?_; rintro e w1 ⟨rfl, rfl⟩))
      go_ret
      exact ⟨rfl, rfl⟩
    · have HN := Aside0.mk (rnan_any t A c b w h (plain_8 hp h6))
      have hd : decide (ordR t b) = !decide (nanR t b) := by
        unfold ordR
        by_cases k : nanR t b <;> simp [hp, h6, k]
      rw [hd]
      have g : (letR (knd t) != 115) = true := by
        have := (letR_eq (knd t) (knd_cases t)).2.2.1
        simpa using fun k => h6 (this.1 k)
      generalize letR (knd t) = L at HK g
      generalize decide (nanR t b) = q at HN ⊢
      generalize b.length = n at HP HN ⊢
      clear h hd
      cases q
      · go_enter Tryz.func38, Tryz.ntmps38
        go_wp2_with (first
          | (go_at_call 37; refine HP.out.mono ?_; rintro e w1 ⟨rfl, rfl⟩)
          | (go_at_call 39; refine HN.out.mono ?_; rintro e w1 ⟨rfl, rfl⟩)
          | (go_at_call 25; refine HK.out.mono ?_; rintro e w1 ⟨rfl, rfl⟩))
        go_ret
        exact ⟨rfl, rfl⟩
      · go_enter Tryz.func38, Tryz.ntmps38
        go_wp2_with (first
          | (go_at_call 37; refine HP.out.mono ?_; rintro e w1 ⟨rfl, rfl⟩)
          | (go_at_call 39; refine HN.out.mono ?_; rintro e w1 ⟨rfl, rfl⟩)
          | (go_at_call 25; refine HK.out.mono ?_; rintro e w1 ⟨rfl, rfl⟩))
        go_ret
        exact ⟨rfl, rfl⟩
  · rw [show decide (ordR t b) = false from decide_eq_false fun k => hp k.1]
    generalize b.length = n at HP ⊢
    generalize plainC t b = r at HP hp
    have g : (r == 0) = false := by simpa using hp
    clear h
    go_enter Tryz.func38, Tryz.ntmps38
    go_wp2_with (go_at_call 37; refine HP.out.mono ?_; rintro e w1 ⟨rfl, rfl⟩)
    go_ret
    exact ⟨rfl, rfl⟩
end Go.Proofs.YtcgcghldgomelaaGreatDoor.Mp
