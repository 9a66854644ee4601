/- The law's example of types: whole numbers. -/
import Derived.Test.YtcgcghldgomelaaGreatDoorTfc
import Derived.Test.YtcgcghldgomelaaGreatDoorStr
import Derived.Laws.FloatArith
namespace Go.Proofs.YtcgcghldgomelaaGreatDoor.Mp
open Go.RowKit Go.Shelf Go.Proofs.YtcgcghldgomelaaGreatDoor.Rng Go.Proofs.YtcgcghldgomelaaGreatDoorW.PrintWords Go.Proofs.YtcgcghldgomelaaGreatDoorW.PrintMore Go.Proofs.YtcgcghldgomelaaGreatDoorW.PrintLast

/-- What the example reads of the tables of numbers. -/
structure Tabs (w : World) : Prop where
  p10 : w.cell? ⟨3, 0, none⟩ = some (.int .u64 1)
  z0 : w.cell? ⟨2, 0, none⟩ = some (.int .u8 0)
  z51 : w.cell? ⟨2, 22, none⟩ = some (.int .u8 51)
theorem Tabs.below {w w' : World} (h : Tabs w) (hb : Below w.heap.size w w') : Tabs w' := ⟨pw_cell_below hb h.p10, pw_cell_below hb h.z0, pw_cell_below hb h.z51⟩
set_option maxRecDepth 100000 in
theorem len64_2 (w : World) : Calls Tryz.prog 91 #[.int .u64 2] w fun e w' => e = .returned (.int .i64 2) ∧ w' = w := by
  go_enter Tryz.func91, Tryz.ntmps91
  go_wp2
  go_ret
  exact ⟨by kernel_rfl, rfl⟩
set_option maxRecDepth 100000 in
theorem len64_3 (w : World) : Calls Tryz.prog 91 #[.int .u64 3] w fun e w' => e = .returned (.int .i64 2) ∧ w' = w := by
  go_enter Tryz.func91, Tryz.ntmps91
  go_wp2
  go_ret
  exact ⟨by kernel_rfl, rfl⟩
theorem log10_2 (w : World) : Calls Tryz.prog 132 #[.int .i64 2] w fun e w' => e = .returned (.int .i64 0) ∧ w' = w := by
  go_enter Tryz.func132, Tryz.ntmps132
  go_wp2
  go_ret
  exact ⟨rfl, rfl⟩
theorem bool2_1 (w : World) : Calls Tryz.prog 133 #[.bool true] w fun e w' => e = .returned (.int .i64 1) ∧ w' = w := by
  go_enter Tryz.func133, Tryz.ntmps133
  go_wp2
  go_ret
  exact ⟨rfl, rfl⟩
set_option maxRecDepth 100000 in
theorem digits_2 (w : World) (h : Tabs w) : Calls Tryz.prog 111 #[.int .u64 2] w fun e w' => e = .returned (.int .i64 1) ∧ w' = w := by
  have c0 := h.p10
  go_enter Tryz.func111, Tryz.ntmps111
  go_wp2_with (first
    | (go_at_call 91; refine (len64_2 _).mono ?_; rintro e w1 ⟨rfl, hw⟩; have hw := hw.symm; subst hw)
    | (go_at_call 132; refine (log10_2 _).mono ?_; rintro e w1 ⟨rfl, hw⟩; have hw := hw.symm; subst hw)
    | (go_at_call 133; refine (bool2_1 _).mono ?_; rintro e w1 ⟨rfl, hw⟩; have hw := hw.symm; subst hw))
  go_ret
  exact ⟨rfl, rfl⟩
set_option maxRecDepth 100000 in
theorem fmt10_2 (b c : Nat) (v : Value) (w : World) (h : w.cell? ⟨b, 1, none⟩ = some v) (hf : w.frozen? ⟨b, 1, none⟩ = false) : Calls Tryz.prog 112 #[.slice (some ⟨b, 1, none⟩) 1 c, .int .u64 2] w fun e w' => e = .returned (.tuple #[]) ∧ w' = w.setCell ⟨b, 1, none⟩ (.int .u8 50) := by
  go_enter Tryz.func112, Tryz.ntmps112
  go_wp2
  go_loopw [4, 1] (fun iv uv wr => iv = .int .i64 1 ∧ uv = .int .u64 2 ∧ wr = w) (fun _ _ _ => 0)
  case atStart => exact ⟨rfl, rfl, rfl⟩
  case round =>
    obtain ⟨rfl, rfl, rfl⟩ := hrel
    go_wp2
    go_end0
    exact ⟨rfl, rfl⟩
theorem small_1 (w : World) : Calls Tryz.prog 110 #[.int .i64 1] w fun e w' => e = .returned (.string ⟨#[49]⟩) ∧ w' = w := by
  go_enter Tryz.func110, Tryz.ntmps110
  go_wp2
  go_ret
  exact ⟨rfl, rfl⟩
theorem small_3 (w : World) : Calls Tryz.prog 110 #[.int .i64 3] w fun e w' => e = .returned (.string ⟨#[51]⟩) ∧ w' = w := by
  go_enter Tryz.func110, Tryz.ntmps110
  go_wp2
  go_ret
  exact ⟨rfl, rfl⟩
theorem fuint_1 (w : World) : Calls Tryz.prog 80 #[.int .u64 1, .int .i64 10] w fun e w' => e = .returned (.string ⟨#[49]⟩) ∧ w' = w := by
  go_enter Tryz.func80, Tryz.ntmps80
  go_wp2_with (go_at_call 110; refine (small_1 _).mono ?_; rintro e w1 ⟨rfl, hw⟩; have hw := hw.symm; subst hw)
  go_ret
  exact ⟨rfl, rfl⟩
theorem fuint_3 (w : World) : Calls Tryz.prog 80 #[.int .u64 3, .int .i64 10] w fun e w' => e = .returned (.string ⟨#[51]⟩) ∧ w' = w := by
  go_enter Tryz.func80, Tryz.ntmps80
  go_wp2_with (go_at_call 110; refine (small_3 _).mono ?_; rintro e w1 ⟨rfl, hw⟩; have hw := hw.symm; subst hw)
  go_ret
  exact ⟨rfl, rfl⟩
theorem funtp_1 (w : World) : Calls Tryz.prog 53 #[.int .u64 1, .int .i64 10] w fun e w' => e = .returned (.string ⟨#[49]⟩) ∧ w' = w := by
  go_enter Tryz.func53, Tryz.ntmps53
  go_wp2_with (go_at_call 80; refine (fuint_1 _).mono ?_; rintro e w1 ⟨rfl, hw⟩; have hw := hw.symm; subst hw)
  go_ret
  exact ⟨rfl, rfl⟩
theorem funtp_3 (w : World) : Calls Tryz.prog 53 #[.int .u64 3, .int .i64 10] w fun e w' => e = .returned (.string ⟨#[51]⟩) ∧ w' = w := by
  go_enter Tryz.func53, Tryz.ntmps53
  go_wp2_with (go_at_call 80; refine (fuint_3 _).mono ?_; rintro e w1 ⟨rfl, hw⟩; have hw := hw.symm; subst hw)
  go_ret
  exact ⟨rfl, rfl⟩
theorem str_m2 (w : World) (cs : Array Value) (t : TypeId) (h0 : cs[0]? = some (.int .u8 45)) (h1 : cs[1]? = some (.int .u8 50)) : (convert 22 9 (.slice (some ⟨w.heap.size, 0, none⟩) 2 24)).run Tryz.prog (w.alloc (.cells cs t)) = .ok (.string ⟨#[45, 50]⟩) (w.alloc (.cells cs t)) := by
  have hc := Go.Proofs.YtcgcghldgomelaaGreatDoorW.PrintWords.blk_cell (blk_new w (.cells cs t))
  refine str_rd (zs := [45, 50]) ⟨by decide, fun _ => ⟨⟨w.heap.size, 0, none⟩, rfl, fun j hj => ?_⟩⟩ 2 24 rfl _ (by decide +kernel)
  match j, hj with
  | 0, _ => exact (hc 0).trans h0
  | 1, _ => exact (hc 1).trans h1
  | j + 2, hj => simp at hj; omega
set_option maxRecDepth 100000 in
set_option maxHeartbeats 1000000 in
theorem fint_n2 (w : World) (h : Tabs w) : Calls Tryz.prog 79 #[.int .i64 (-2), .int .i64 10] w fun e w' => e = .returned (.string ⟨#[45, 50]⟩) ∧ Below w.heap.size w w' := by
  have H := Aside0.mk h
  clear h
  go_enter Tryz.func79, Tryz.ntmps79
  have hcv := fun cs t h0 h1 => str_m2 w cs t h0 h1
  have e2 : IntKind.u64.wrap (-IntKind.u64.wrap (-2)) = 2 := by decide
  go_wp2_with (first
    | (go_at_call 111; refine (digits_2 _ (H.out.below (below_alloc (Below.refl _ _) _))).mono ?_; rintro e w1 ⟨rfl, hw⟩; have hw := hw.symm; subst hw)
    | (go_at_call 112; refine (fmt10_2 w.heap.size _ (.int .u8 0) _ (Go.Proofs.YtcgcghldgomelaaGreatDoorW.PrintWords.blk_cell (blk_new w _) 1) (Go.Proofs.YtcgcghldgomelaaGreatDoorW.PrintWords.blk_frozen (blk_new w _) 1)).mono ?_; rintro e w1 ⟨rfl, hw⟩; have hw := hw.symm; subst hw))
  go_ret
  exact ⟨rfl, below_alloc (Below.refl _ _) _⟩
theorem sint_n2 (w : World) (h : Tabs w) : Calls Tryz.prog 52 #[.int .i64 (-2), .int .i64 10] w fun e w' => e = .returned (.string ⟨#[45, 50]⟩) ∧ Below w.heap.size w w' := by
  have H := Aside0.mk h
  clear h
  go_enter Tryz.func52, Tryz.ntmps52
  go_wp2_with (go_at_call 79; refine (fint_n2 _ H.out).mono ?_; rintro e w1 ⟨rfl, hb⟩; have HB := Aside0.mk hb; clear hb)
  go_ret
  exact ⟨rfl, HB.out⟩
set_option maxRecDepth 100000 in
set_option maxHeartbeats 1000000 in
/-- The text of one digit is read: []byte(s), a loop of one round. -/
theorem parse_d (b : UInt8) (n : Int) (hb : (b.toNat : Int) = 48 + n) (hn : 0 ≤ n ∧ n ≤ 9) (w : World) : Calls Tryz.prog 142 #[.string ⟨#[b]⟩, .int .i64 10, .int .i64 64] w fun e w' => e = .returned (.tuple #[.int .u64 n, .nilIface]) ∧ Below w.heap.size w w' := by
  obtain ⟨cap, W, hcv, ha, hbl⟩ := conv_sb w (zs := [48 + n]) (n := 1) (by intro x hx; simp at hx; subst hx; omega) rfl (by omega)
  have hs : strOfNums [48 + n] = ⟨#[b]⟩ := by
    unfold strOfNums
    have : UInt8.ofNat (48 + n).toNat = b := by
      rw [← hb]
      simp
    simp [this]
  rw [hs] at hcv
  obtain ⟨ad, e, hc⟩ := ha.rd.2 (by simp)
  injection e with e
  subst e
  have c0 : W.cell? ⟨w.heap.size, 0, none⟩ = some (.int .u8 (48 + n)) := hc 0 (by simp)
  have HB := Aside0.mk hbl
  obtain ⟨hn0, hn9⟩ := hn
  have hmx : IntKind.u64.wrap (IntKind.u64.wrap 18446744073709551616 - 1) = 18446744073709551615 := by decide
  have d1 : decide (48 + n - 48 < 0) = false := decide_eq_false (by omega)
  have d2 : decide (18446744073709551615 < 48 + n - 48) = false := decide_eq_false (by omega)
  clear hb hs ha hc hbl
  go_enter Tryz.func142, Tryz.ntmps142
  go_wp2
  go_loopw [12, 13, 101] (fun uv nv iv wr => ∃ k : Nat, k ≤ 1 ∧ iv = .int .i64 k ∧ uv = .bool false ∧ nv = .int .u64 (k * n) ∧ wr = W) (fun _ _ iv _ => 1 - (intOf iv).toNat)
  case atStart => exact ⟨0, by omega, rfl, rfl, by simp, rfl⟩
  case round =>
    obtain ⟨k, hk, rfl, rfl, rfl, rfl⟩ := hrel
    by_cases hlt : k < 1
    · obtain rfl : k = 0 := by omega
      go_wp2
      go_roundw
      case rel => exact ⟨1, by omega, rfl, rfl, by congr 1; omega, trivial⟩
      case measure => simp [intOf]
    · obtain rfl : k = 1 := by omega
      go_wp2
      go_ret2
      exact ⟨by simp, HB.out⟩
end Go.Proofs.YtcgcghldgomelaaGreatDoor.Mp
