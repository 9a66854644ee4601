/- cmp.Compare over numbers; types.whole. -/
import Derived.Test.YtcgcghldgomelaaGreatDoorTpn
namespace Go.Proofs.YtcgcghldgomelaaGreatDoor.Mp
open Go.RowKit Go.Shelf Go.Proofs.YtcgcghldgomelaaGreatDoor.Rng Go.Proofs.YtcgcghldgomelaaGreatDoorW.PrintWords Go.Proofs.YtcgcghldgomelaaGreatDoorW.PrintMore Go.Proofs.YtcgcghldgomelaaGreatDoor.Num
theorem ret_i {k : IntKind} {a b : Int} (h : a = b) : Ending.returned (.int k a) = .returned (.int k b) := by rw [h]
set_option maxRecDepth 100000 in
theorem isnan_i (x : Int) (w : World) : Calls Tryz.prog 70 #[.int .i64 x] w fun e w' => e = .returned (.bool false) ∧ w' = w := by
  go_enter Tryz.func70, Tryz.ntmps70
  go_wp2
  go_ret
  exact ⟨rfl, rfl⟩
set_option maxRecDepth 100000 in
theorem compare_i (x y : Int) (w : World) : Calls Tryz.prog 41 #[.int .i64 x, .int .i64 y] w fun e w' => e = .returned (.int .i64 (cmp3 x y)) ∧ w' = w := by
  obtain ⟨r, hr⟩ : ∃ r, cmp3 x y = r := ⟨_, rfl⟩
  rw [hr]
  unfold cmp3 at hr
  by_cases h1 : x < y
  · rw [if_pos h1] at hr
    subst hr
    go_enter Tryz.func41, Tryz.ntmps41
    go_wp2_with (go_at_call 70; refine (isnan_i _ _).mono ?_; rintro e w1 ⟨rfl, rfl⟩)
    go_ret
    exact ⟨rfl, rfl⟩
  · rw [if_neg h1] at hr
    by_cases h2 : y < x
    · rw [if_pos h2] at hr
      subst hr
      clear h1
      have h1 : ¬ x < y := by omega
      go_enter Tryz.func41, Tryz.ntmps41
      go_wp2_with (go_at_call 70; refine (isnan_i _ _).mono ?_; rintro e w1 ⟨rfl, rfl⟩)
      go_ret
      exact ⟨rfl, rfl⟩
    · rw [if_neg h2] at hr
      subst hr
      go_enter Tryz.func41, Tryz.ntmps41
      go_wp2_with (go_at_call 70; refine (isnan_i _ _).mono ?_; rintro e w1 ⟨rfl, rfl⟩)
      go_ret
      exact ⟨rfl, rfl⟩
set_option maxRecDepth 100000 in
theorem isnan_u (x : Int) (w : World) : Calls Tryz.prog 75 #[.int .u64 x] w fun e w' => e = .returned (.bool false) ∧ w' = w := by
  go_enter Tryz.func75, Tryz.ntmps75
  go_wp2
  go_ret
  exact ⟨rfl, rfl⟩
set_option maxRecDepth 100000 in
theorem compare_u (x y : Int) (w : World) : Calls Tryz.prog 48 #[.int .u64 x, .int .u64 y] w fun e w' => e = .returned (.int .i64 (cmp3 x y)) ∧ w' = w := by
  obtain ⟨r, hr⟩ : ∃ r, cmp3 x y = r := ⟨_, rfl⟩
  rw [hr]
  unfold cmp3 at hr
  by_cases h1 : x < y
  · rw [if_pos h1] at hr
    subst hr
    go_enter Tryz.func48, Tryz.ntmps48
    go_wp2_with (go_at_call 75; refine (isnan_u _ _).mono ?_; rintro e w1 ⟨rfl, rfl⟩)
    go_ret
    exact ⟨rfl, rfl⟩
  · rw [if_neg h1] at hr
    by_cases h2 : y < x
    · rw [if_pos h2] at hr
      subst hr
      clear h1
      have h1 : ¬ x < y := by omega
      go_enter Tryz.func48, Tryz.ntmps48
      go_wp2_with (go_at_call 75; refine (isnan_u _ _).mono ?_; rintro e w1 ⟨rfl, rfl⟩)
      go_ret
      exact ⟨rfl, rfl⟩
    · rw [if_neg h2] at hr
      subst hr
      go_enter Tryz.func48, Tryz.ntmps48
      go_wp2_with (go_at_call 75; refine (isnan_u _ _).mono ?_; rintro e w1 ⟨rfl, rfl⟩)
      go_ret
      exact ⟨rfl, rfl⟩
set_option maxRecDepth 100000 in
set_option maxHeartbeats 1000000 in
theorem whole_any (A : Option Addr) (c : Nat) (zs : List Int) (w : World) (hz : Rd w A zs) (hb : Byt zs) (hl : zs.length = 1 ∨ zs.length = 2 ∨ zs.length = 3 ∨ zs.length = 4 ∨ zs.length = 8) :
    Calls Tryz.prog 42 #[.slice A zs.length c] w fun e w' => e = .returned (.int .i64 (wholeC zs)) ∧ Below w.heap.size w w' := by
  have HNB := Aside0.mk (number_any A c zs w hz hb (by omega))
  have h0 := num_nonneg hb
  have h1 := num_lt hb
  obtain ⟨r, hr⟩ : ∃ r, wholeC zs = r := ⟨_, rfl⟩
  rw [hr]
  unfold wholeC at hr
  generalize num zs = y at h0 h1 hr HNB
  generalize zs.length = n at *
  have HR := Aside0.mk hr
  clear hr hz
  rcases hl with rfl | rfl | rfl | rfl | rfl
  all_goals
    simp only [Int.pow_succ, Int.pow_zero] at h1
    go_enter Tryz.func42, Tryz.ntmps42
    go_wp2_with (go_at_call 49; refine HNB.out.mono ?_; rintro e w1 ⟨rfl, hb⟩; have HB := Aside0.mk hb; clear hb)
    go_ret
    refine ⟨ret_i ?_, HB.out⟩
    rw [← HR.out]
    simp only [Int.pow_succ, Int.pow_zero]
    unfold wrap64
    split <;> omega
end Go.Proofs.YtcgcghldgomelaaGreatDoor.Mp
