/- The document's functions of layer 1, walked: Kind, Size, Right. -/
import Derived.Test.YtcgcghldgomelaaGreatDoorRk
namespace Go.Proofs.YtcgcghldgomelaaGreatDoor.Mp
open Go.RowKit Go.Shelf Go.Proofs.YtcgcghldgomelaaGreatDoor.Rng Go.Proofs.YtcgcghldgomelaaGreatDoorW.PrintWords Go.Proofs.YtcgcghldgomelaaGreatDoorW.PrintMore Go.Proofs.YtcgcghldgomelaaGreatDoorW.PrintLast

def letR (k : Int) : Int := if k = 1 then 98 else if k = 2 then 105 else if k = 3 then 117 else if k = 4 then 102 else if k = 5 then 116 else if k = 6 then 115 else 0
theorem letR_eq (k : Int) (h : k = 0 ∨ k = 1 ∨ k = 2 ∨ k = 3 ∨ k = 4 ∨ k = 5 ∨ k = 6) : (letR k = 98 ↔ k = 1) ∧ (letR k = 116 ↔ k = 5) ∧ (letR k = 115 ↔ k = 6) ∧ (letR k = 105 ↔ k = 2) ∧ (letR k = 102 ↔ k = 4) ∧ (letR k = 0 ↔ k = 0) := by
  rcases h with rfl | rfl | rfl | rfl | rfl | rfl | rfl <;> decide
set_option maxRecDepth 100000 in
set_option maxHeartbeats 4000000 in
theorem rkind_any (t : Int) (w : World) : Calls Tryz.prog 25 #[.int .u8 t] w fun e w' => e = .returned (.int .u8 (letR (knd t))) ∧ w' = w := by
  by_cases h1 : t = 1
  · subst h1
    go_enter Tryz.func25, Tryz.ntmps25
    go_wp2
    go_ret
    exact ⟨rfl, rfl⟩
  by_cases h2 : t = 2
  · subst h2
    go_enter Tryz.func25, Tryz.ntmps25
    go_wp2
    go_ret
    exact ⟨rfl, rfl⟩
  by_cases h3 : t = 3
  · subst h3
    go_enter Tryz.func25, Tryz.ntmps25
    go_wp2
    go_ret
    exact ⟨rfl, rfl⟩
  by_cases h4 : t = 4
  · subst h4
    go_enter Tryz.func25, Tryz.ntmps25
    go_wp2
    go_ret
    exact ⟨rfl, rfl⟩
  by_cases h16 : t = 16
  · subst h16
    go_enter Tryz.func25, Tryz.ntmps25
    go_wp2
    go_ret
    exact ⟨rfl, rfl⟩
  by_cases h21 : t = 21
  · subst h21
    go_enter Tryz.func25, Tryz.ntmps25
    go_wp2
    go_ret
    exact ⟨rfl, rfl⟩
  by_cases h5 : t = 5
  · subst h5
    go_enter Tryz.func25, Tryz.ntmps25
    go_wp2
    go_ret
    exact ⟨rfl, rfl⟩
  by_cases h6 : t = 6
  · subst h6
    go_enter Tryz.func25, Tryz.ntmps25
    go_wp2
    go_ret
    exact ⟨rfl, rfl⟩
  by_cases h7 : t = 7
  · subst h7
    go_enter Tryz.func25, Tryz.ntmps25
    go_wp2
    go_ret
    exact ⟨rfl, rfl⟩
  by_cases h22 : t = 22
  · subst h22
    go_enter Tryz.func25, Tryz.ntmps25
    go_wp2
    go_ret
    exact ⟨rfl, rfl⟩
  by_cases h27 : t = 27
  · subst h27
    go_enter Tryz.func25, Tryz.ntmps25
    go_wp2
    go_ret
    exact ⟨rfl, rfl⟩
  by_cases h8 : t = 8
  · subst h8
    go_enter Tryz.func25, Tryz.ntmps25
    go_wp2
    go_ret
    exact ⟨rfl, rfl⟩
  by_cases h17 : t = 17
  · subst h17
    go_enter Tryz.func25, Tryz.ntmps25
    go_wp2
    go_ret
    exact ⟨rfl, rfl⟩
  by_cases h12 : t = 12
  · subst h12
    go_enter Tryz.func25, Tryz.ntmps25
    go_wp2
    go_ret
    exact ⟨rfl, rfl⟩
  by_cases h13 : t = 13
  · subst h13
    go_enter Tryz.func25, Tryz.ntmps25
    go_wp2
    go_ret
    exact ⟨rfl, rfl⟩
  by_cases h9 : t = 9
  · subst h9
    go_enter Tryz.func25, Tryz.ntmps25
    go_wp2
    go_ret
    exact ⟨rfl, rfl⟩
  by_cases h10 : t = 10
  · subst h10
    go_enter Tryz.func25, Tryz.ntmps25
    go_wp2
    go_ret
    exact ⟨rfl, rfl⟩
  by_cases h15 : t = 15
  · subst h15
    go_enter Tryz.func25, Tryz.ntmps25
    go_wp2
    go_ret
    exact ⟨rfl, rfl⟩
  have hk : knd t = 0 := by simp [knd, h1, h2, h3, h4, h16, h21, h5, h6, h7, h22, h27, h8, h17, h12, h13, h9, h10, h15]
  have hz : siz t = 0 := by simp [siz, h1, h2, h3, h4, h16, h21, h5, h6, h7, h22, h27, h8, h17, h12, h13]
  rw [hk]
  have g1 : (t == 1) = false := by simpa using h1
  have g2 : (t == 2) = false := by simpa using h2
  have g3 : (t == 3) = false := by simpa using h3
  have g4 : (t == 4) = false := by simpa using h4
  have g16 : (t == 16) = false := by simpa using h16
  have g21 : (t == 21) = false := by simpa using h21
  have g5 : (t == 5) = false := by simpa using h5
  have g6 : (t == 6) = false := by simpa using h6
  have g7 : (t == 7) = false := by simpa using h7
  have g22 : (t == 22) = false := by simpa using h22
  have g27 : (t == 27) = false := by simpa using h27
  have g8 : (t == 8) = false := by simpa using h8
  have g17 : (t == 17) = false := by simpa using h17
  have g12 : (t == 12) = false := by simpa using h12
  have g13 : (t == 13) = false := by simpa using h13
  have g9 : (t == 9) = false := by simpa using h9
  have g10 : (t == 10) = false := by simpa using h10
  have g15 : (t == 15) = false := by simpa using h15
  go_enter Tryz.func25, Tryz.ntmps25
  go_wp2
  go_ret
  exact ⟨rfl, rfl⟩
set_option maxRecDepth 100000 in
set_option maxHeartbeats 4000000 in
theorem rsize_any (t : Int) (w : World) : Calls Tryz.prog 24 #[.int .u8 t] w fun e w' => e = .returned (.tuple #[.int .i64 (siz t), .bool (decide (0 < siz t))]) ∧ w' = w := by
  by_cases h1 : t = 1
  · subst h1
    go_enter Tryz.func24, Tryz.ntmps24
    go_wp2
    go_ret2
    exact ⟨rfl, rfl⟩
  by_cases h2 : t = 2
  · subst h2
    go_enter Tryz.func24, Tryz.ntmps24
    go_wp2
    go_ret2
    exact ⟨rfl, rfl⟩
  by_cases h3 : t = 3
  · subst h3
    go_enter Tryz.func24, Tryz.ntmps24
    go_wp2
    go_ret2
    exact ⟨rfl, rfl⟩
  by_cases h4 : t = 4
  · subst h4
    go_enter Tryz.func24, Tryz.ntmps24
    go_wp2
    go_ret2
    exact ⟨rfl, rfl⟩
  by_cases h16 : t = 16
  · subst h16
    go_enter Tryz.func24, Tryz.ntmps24
    go_wp2
    go_ret2
    exact ⟨rfl, rfl⟩
  by_cases h21 : t = 21
  · subst h21
    go_enter Tryz.func24, Tryz.ntmps24
    go_wp2
    go_ret2
    exact ⟨rfl, rfl⟩
  by_cases h5 : t = 5
  · subst h5
    go_enter Tryz.func24, Tryz.ntmps24
    go_wp2
    go_ret2
    exact ⟨rfl, rfl⟩
  by_cases h6 : t = 6
  · subst h6
    go_enter Tryz.func24, Tryz.ntmps24
    go_wp2
    go_ret2
    exact ⟨rfl, rfl⟩
  by_cases h7 : t = 7
  · subst h7
    go_enter Tryz.func24, Tryz.ntmps24
    go_wp2
    go_ret2
    exact ⟨rfl, rfl⟩
  by_cases h22 : t = 22
  · subst h22
    go_enter Tryz.func24, Tryz.ntmps24
    go_wp2
    go_ret2
    exact ⟨rfl, rfl⟩
  by_cases h27 : t = 27
  · subst h27
    go_enter Tryz.func24, Tryz.ntmps24
    go_wp2
    go_ret2
    exact ⟨rfl, rfl⟩
  by_cases h8 : t = 8
  · subst h8
    go_enter Tryz.func24, Tryz.ntmps24
    go_wp2
    go_ret2
    exact ⟨rfl, rfl⟩
  by_cases h17 : t = 17
  · subst h17
    go_enter Tryz.func24, Tryz.ntmps24
    go_wp2
    go_ret2
    exact ⟨rfl, rfl⟩
  by_cases h12 : t = 12
  · subst h12
    go_enter Tryz.func24, Tryz.ntmps24
    go_wp2
    go_ret2
    exact ⟨rfl, rfl⟩
  by_cases h13 : t = 13
  · subst h13
    go_enter Tryz.func24, Tryz.ntmps24
    go_wp2
    go_ret2
    exact ⟨rfl, rfl⟩
  by_cases h9 : t = 9
  · subst h9
    go_enter Tryz.func24, Tryz.ntmps24
    go_wp2
    go_ret2
    exact ⟨rfl, rfl⟩
  by_cases h10 : t = 10
  · subst h10
    go_enter Tryz.func24, Tryz.ntmps24
    go_wp2
    go_ret2
    exact ⟨rfl, rfl⟩
  by_cases h15 : t = 15
  · subst h15
    go_enter Tryz.func24, Tryz.ntmps24
    go_wp2
    go_ret2
    exact ⟨rfl, rfl⟩
  have hk : knd t = 0 := by simp [knd, h1, h2, h3, h4, h16, h21, h5, h6, h7, h22, h27, h8, h17, h12, h13, h9, h10, h15]
  have hz : siz t = 0 := by simp [siz, h1, h2, h3, h4, h16, h21, h5, h6, h7, h22, h27, h8, h17, h12, h13]
  rw [hz]
  have g1 : (t == 1) = false := by simpa using h1
  have g2 : (t == 2) = false := by simpa using h2
  have g3 : (t == 3) = false := by simpa using h3
  have g4 : (t == 4) = false := by simpa using h4
  have g16 : (t == 16) = false := by simpa using h16
  have g21 : (t == 21) = false := by simpa using h21
  have g5 : (t == 5) = false := by simpa using h5
  have g6 : (t == 6) = false := by simpa using h6
  have g7 : (t == 7) = false := by simpa using h7
  have g22 : (t == 22) = false := by simpa using h22
  have g27 : (t == 27) = false := by simpa using h27
  have g8 : (t == 8) = false := by simpa using h8
  have g17 : (t == 17) = false := by simpa using h17
  have g12 : (t == 12) = false := by simpa using h12
  have g13 : (t == 13) = false := by simpa using h13
  have g9 : (t == 9) = false := by simpa using h9
  have g10 : (t == 10) = false := by simpa using h10
  have g15 : (t == 15) = false := by simpa using h15
  go_enter Tryz.func24, Tryz.ntmps24
  go_wp2
  go_ret2
  exact ⟨rfl, rfl⟩
set_option maxRecDepth 100000 in
theorem rright_any (t : Int) (w : World) : Calls Tryz.prog 34 #[.int .u8 t] w fun e w' => e = .returned (.bool (decide (knd t ≠ 0))) ∧ w' = w := by
  have hb : (letR (knd t) != 0) = decide (knd t ≠ 0) := by
    have h := (letR_eq (knd t) (knd_cases t)).2.2.2.2.2
    by_cases h0 : knd t = 0
    · simp [h0, letR]
    · have : letR (knd t) ≠ 0 := fun k => h0 (h.1 k)
      simp [h0, this]
  have HB := Aside0.mk hb
  clear hb
  go_enter Tryz.func34, Tryz.ntmps34
  go_wp2_with (go_at_call 25; refine (rkind_any t w).mono ?_; rintro e w1 ⟨rfl, rfl⟩)
  rw [HB.out]
  go_ret
  exact ⟨rfl, rfl⟩
end Go.Proofs.YtcgcghldgomelaaGreatDoor.Mp
