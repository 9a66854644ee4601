/- Floats compared. -/
import Derived.Test.YtcgcghldgomelaaGreatDoorTfl
namespace Go.Proofs.YtcgcghldgomelaaGreatDoor.Mp
open Go.RowKit Go.Shelf Go.Proofs.YtcgcghldgomelaaGreatDoor.Rng Go.Proofs.YtcgcghldgomelaaGreatDoorW.PrintWords Go.Proofs.YtcgcghldgomelaaGreatDoorW.PrintMore Go.Proofs.YtcgcghldgomelaaGreatDoor.Num

theorem order_self (d : Ieee.Datum) : d.order d = some .eq ∨ ∃ s f, d = .nan s f := by
  cases d with
  | nan s f => exact .inr ⟨s, f, rfl⟩
  | infinity s => exact .inl (by cases s <;> rfl)
  | number s m e => exact .inl (by simp [Ieee.Datum.order])
theorem nan_self {X : Nat} (h : ordF X X ≠ some .eq) (Y : Nat) : ordF X Y = none ∧ ordF Y X = none := by
  rcases order_self (Ieee.double.read X) with h1 | ⟨s, f, h1⟩
  · exact absurd h1 h
  · constructor
    · show (Ieee.double.read X).order (Ieee.double.read Y) = none
      rw [h1]
      rfl
    · show (Ieee.double.read Y).order (Ieee.double.read X) = none
      rw [h1]
      cases Ieee.double.read Y <;> rfl
theorem wide_self {y : Nat} (h : (FloatKind.f32.decode y).isNaN = false) : ordF (wideF y) (wideF y) = some .eq := by
  rcases order_self (Ieee.double.read (wideF y)) with h1 | ⟨s, f, h1⟩
  · exact h1
  · unfold wideF at h1
    cases hd : FloatKind.f32.decode y with
    | nan s f => rw [hd] at h; cases h
    | infinity s =>
      have h2 := (double_inf s).1
      rw [hd] at h1
      exact absurd (h2.symm.trans h1) (by simp)
    | number s m e =>
      obtain ⟨h3, h4, h5⟩ := single_number (show Ieee.single.read y = .number s m e from hd)
      rw [hd] at h1
      by_cases hm : m = 0
      · subst hm
        exact absurd ((double_zero s e).1.symm.trans h1) (by simp)
      · exact absurd ((double_number s m e (by omega) h3 ⟨h4, h5⟩).1.symm.trans h1) (by simp)
/-- types.real, of any float. -/
theorem real_any (A : Option Addr) (c : Nat) (zs : List Int) (w : World) (hz : Rd w A zs) (hb : Byt zs) (hl : zs.length = 4 ∨ zs.length = 8) :
    Calls Tryz.prog 43 #[.slice A zs.length c] w fun e w' => ∃ X, e = .returned (.float .f64 X) ∧ (nanF zs → ∀ Y, ordF X Y = none ∧ ordF Y X = none) ∧ (¬ nanF zs → X = bitF zs ∧ X < 18446744073709551616 ∧ ordF X X = some .eq) ∧ Below w.heap.size w w' := by
  have h0 := num_nonneg hb
  have h1 := num_lt hb
  rcases hl with hl | hl
  · by_cases hn : nanF zs
    · rw [hl]
      exact (real_n A c zs w hz hb hl hn).mono fun e w' ⟨X, he, hX, hB⟩ => ⟨X, he, fun _ => hX, fun h => absurd hn h, hB⟩
    · rw [hl]
      have hn' := hn
      unfold nanF at hn'
      rw [if_pos hl, Bool.not_eq_true] at hn'
      exact (real_4 A c zs w hz hb hl hn).mono fun e w' ⟨he, hB⟩ => ⟨_, he, fun h => absurd h hn, fun _ => ⟨by unfold bitF; rw [if_pos hl], (wide_bits hn').2, wide_self hn'⟩, hB⟩
  · rw [hl]
    have h8 : ¬ zs.length = 4 := by omega
    refine (real_8 A c zs w hz hb hl).mono fun e w' ⟨he, hB⟩ => ⟨_, he, fun h => ?_, fun h => ?_, hB⟩
    · unfold nanF at h
      rw [if_neg h8] at h
      exact nan_self h
    · unfold nanF at h
      rw [if_neg h8] at h
      refine ⟨by unfold bitF; rw [if_neg h8], ?_, Classical.not_not.1 h⟩
      rw [hl] at h1
      have h2 : (256 : Int) ^ 8 = 18446744073709551616 := by decide
      omega
/-- Two floats that are none of NaN, in order; the sign of 1 alone. -/
def f3 (X Y : Nat) : Int := if ordF X Y = some .lt then -1 else if ordF X Y = some .gt then 1 else 0
def csn (X : Nat) : Nat := if X < 9223372036854775808 then 4607182418800017408 else 13830554455654793216
def fcmp (X Y : Nat) : Int := if ordF X 0 = some .eq ∧ ordF Y 0 = some .eq then f3 (csn X) (csn Y) else f3 X Y
def fltC (a b : List Int) : Int × Bool := if nanF a ∨ nanF b then (0, false) else (fcmp (bitF a) (bitF b), true)
theorem bne_of {a : Option Ordering} (h : a = some .eq) : (a != some .eq) = false := by subst h; rfl
theorem bne_none {a : Option Ordering} (h : a = none) : (a != some .eq) = true := by subst h; rfl
set_option maxRecDepth 100000 in
theorem isnan_f (X : Nat) (w : World) : Calls Tryz.prog 73 #[.float .f64 X] w fun e w' => e = .returned (.bool (ordF X X != some .eq)) ∧ w' = w := by
  go_enter Tryz.func73, Tryz.ntmps73
  go_wp2
  go_ret
  exact ⟨rfl, rfl⟩
set_option maxRecDepth 100000 in
theorem misnan_f (X : Nat) (w : World) : Calls Tryz.prog 44 #[.float .f64 X] w fun e w' => e = .returned (.bool (ordF X X != some .eq)) ∧ w' = w := by
  go_enter Tryz.func44, Tryz.ntmps44
  go_wp2
  go_ret
  exact ⟨rfl, rfl⟩
theorem isnan_no {X : Nat} (h : ordF X X = some .eq) (w : World) : Calls Tryz.prog 73 #[.float .f64 X] w fun e w' => e = .returned (.bool false) ∧ w' = w :=
  (isnan_f X w).mono fun e w' ⟨he, hw⟩ => ⟨by rw [he, bne_of h], hw⟩
theorem misnan_no {X : Nat} (h : ordF X X = some .eq) (w : World) : Calls Tryz.prog 44 #[.float .f64 X] w fun e w' => e = .returned (.bool false) ∧ w' = w :=
  (misnan_f X w).mono fun e w' ⟨he, hw⟩ => ⟨by rw [he, bne_of h], hw⟩
theorem misnan_yes {X : Nat} (h : ordF X X = none) (w : World) : Calls Tryz.prog 44 #[.float .f64 X] w fun e w' => e = .returned (.bool true) ∧ w' = w :=
  (misnan_f X w).mono fun e w' ⟨he, hw⟩ => ⟨by rw [he, bne_none h], hw⟩
set_option maxRecDepth 100000 in
theorem compare_f (X Y : Nat) (hX : ordF X X = some .eq) (hY : ordF Y Y = some .eq) (w : World) : Calls Tryz.prog 45 #[.float .f64 X, .float .f64 Y] w fun e w' => e = .returned (.int .i64 (f3 X Y)) ∧ w' = w := by
  obtain ⟨r, hr⟩ : ∃ r, f3 X Y = r := ⟨_, rfl⟩
  rw [hr]
  unfold f3 at hr
  have HX := Aside0.mk fun w => isnan_no hX w
  have HY := Aside0.mk fun w => isnan_no hY w
  clear hX hY
  by_cases h1 : ordF X Y = some .lt
  · rw [if_pos h1] at hr
    subst hr
    have h2 : (FloatKind.f64.format.order X Y == some .lt) = true := by rw [show FloatKind.f64.format.order X Y = some .lt from h1]; rfl
    clear h1
    go_enter Tryz.func45, Tryz.ntmps45
    go_wp2_with (go_at_call 73; first | (refine (HX.out _).mono ?_; rintro e w1 ⟨rfl, rfl⟩) | (refine (HY.out _).mono ?_; rintro e w1 ⟨rfl, rfl⟩))
    go_ret
    exact ⟨rfl, rfl⟩
  · rw [if_neg h1] at hr
    have h2 : (FloatKind.f64.format.order X Y == some .lt) = false := by simpa using h1
    clear h1
    by_cases h1 : ordF X Y = some .gt
    · rw [if_pos h1] at hr
      subst hr
      have h3 : (FloatKind.f64.format.order X Y == some .gt) = true := by rw [show FloatKind.f64.format.order X Y = some .gt from h1]; rfl
      clear h1
      go_enter Tryz.func45, Tryz.ntmps45
      go_wp2_with (go_at_call 73; first | (refine (HX.out _).mono ?_; rintro e w1 ⟨rfl, rfl⟩) | (refine (HY.out _).mono ?_; rintro e w1 ⟨rfl, rfl⟩))
      go_ret
      exact ⟨rfl, rfl⟩
    · rw [if_neg h1] at hr
      subst hr
      have h3 : (FloatKind.f64.format.order X Y == some .gt) = false := by simpa using h1
      clear h1
      go_enter Tryz.func45, Tryz.ntmps45
      go_wp2_with (go_at_call 73; first | (refine (HX.out _).mono ?_; rintro e w1 ⟨rfl, rfl⟩) | (refine (HY.out _).mono ?_; rintro e w1 ⟨rfl, rfl⟩))
      go_ret
      exact ⟨rfl, rfl⟩
theorem ret_f {k : FloatKind} {a b : Nat} (h : a = b) : Ending.returned (.float k a) = .returned (.float k b) := by rw [h]
theorem sign_bit (X : Nat) (hX : X < 18446744073709551616) : bits .and .u64 (X : Int) 9223372036854775808 = if X < 9223372036854775808 then 0 else 9223372036854775808 := by
  have h := bits_and_u64_nat X 9223372036854775808 hX (by omega)
  rw [show ((9223372036854775808 : Nat) : Int) = 9223372036854775808 from rfl] at h
  rw [h]
  have e2 : (9223372036854775808 : Nat) = 2 ^ 63 := by decide +kernel
  split
  · rename_i hlt
    have hb : X.testBit 63 = false := Nat.testBit_lt_two_pow (by omega)
    have : X &&& 9223372036854775808 = 0 := by
      apply Nat.eq_of_testBit_eq
      intro i
      rw [e2, Nat.testBit_and, Nat.testBit_two_pow, Nat.zero_testBit]
      by_cases hi : 63 = i
      · subst hi
        rw [hb]
        rfl
      · simp [hi]
    rw [this]
    rfl
  · rename_i hge
    have hb : X.testBit 63 = true := Nat.testBit_of_two_pow_le_and_two_pow_add_one_gt (by omega) (by omega)
    have : X &&& 9223372036854775808 = 9223372036854775808 := by
      apply Nat.eq_of_testBit_eq
      intro i
      rw [e2, Nat.testBit_and, Nat.testBit_two_pow]
      by_cases hi : 63 = i
      · subst hi
        rw [hb]
        rfl
      · simp [hi]
    rw [this]
    rfl
theorem csn_self (X : Nat) : ordF (csn X) (csn X) = some .eq := by
  unfold csn
  split <;> decide +kernel
set_option maxRecDepth 100000 in
theorem copysign_any (X : Nat) (hX : X < 18446744073709551616) (w : World) : Calls Tryz.prog 46 #[.float .f64 4607182418800017408, .float .f64 X] w fun e w' => e = .returned (.float .f64 (csn X)) ∧ w' = w := by
  have t1 := tobits64 4607182418800017408
  have t2 := tobits64 X
  have f1 := frombits64
  go_enter Tryz.func46, Tryz.ntmps46
  go_wp2
  go_ret
  refine ⟨ret_f ?_, rfl⟩
  show (bits .or .u64 (bits .andNot .u64 4607182418800017408 9223372036854775808) (bits .and .u64 (X : Int) 9223372036854775808)).toNat = csn X
  rw [show bits .andNot .u64 4607182418800017408 9223372036854775808 = 4607182418800017408 by decide +kernel, sign_bit X hX]
  unfold csn
  split
  · decide +kernel
  · decide +kernel
end Go.Proofs.YtcgcghldgomelaaGreatDoor.Mp
