/- The law's example of types: a text is read. -/
import Derived.Test.YtcgcghldgomelaaGreatDoorYb
namespace Go.Proofs.YtcgcghldgomelaaGreatDoor.Mp
open Go.RowKit Go.Shelf Go.Proofs.YtcgcghldgomelaaGreatDoor.Rng Go.Proofs.YtcgcghldgomelaaGreatDoorW.PrintWords Go.Proofs.YtcgcghldgomelaaGreatDoorW.PrintMore Go.Proofs.YtcgcghldgomelaaGreatDoorW.PrintLast

set_option maxRecDepth 100000 in
theorem zeros_3 (w : World) (h : Tabs w) : Calls Tryz.prog 98 #[.int .u64 3] w fun e w' => e = .returned (.int .i64 0) ∧ w' = w := by
  have c0 := h.z0
  have b1 : bits BinOp.and IntKind.u64 3 (IntKind.u64.wrap (-3)) = 1 := by decide +kernel
  go_enter Tryz.func98, Tryz.ntmps98
  go_wp2
  go_ret
  exact ⟨rfl, rfl⟩
set_option maxRecDepth 100000 in
theorem zeros_b (w : World) (h : Tabs w) : Calls Tryz.prog 98 #[.int .u64 6755399441055744] w fun e w' => e = .returned (.int .i64 51) ∧ w' = w := by
  have c0 := h.z51
  have b1 : bits BinOp.and IntKind.u64 6755399441055744 (IntKind.u64.wrap (-6755399441055744)) = 2251799813685248 := by decide +kernel
  have b2 : IntKind.u64.wrap 643722492487200784356841378283520 = 6361334473660825600 := by decide +kernel
  go_enter Tryz.func98, Tryz.ntmps98
  go_wp2
  go_ret
  exact ⟨rfl, rfl⟩
theorem ffrexp (w : World) : Calls Tryz.prog 114 #[.float .f64 4609434218613702656] w fun e w' => e = .returned (.tuple #[.float .f64 4604930618986332160, .int .i64 1]) ∧ w' = w := by
  go_enter Tryz.func114, Tryz.ntmps114
  go_wp2_with (go_at_call 137; refine (frexp_15 _).mono ?_; rintro e w1 ⟨rfl, hw⟩; have hw := hw.symm; subst hw)
  go_ret2
  exact ⟨rfl, rfl⟩
theorem fldexp_3 (w : World) : Calls Tryz.prog 99 #[.float .f64 4613937818241073152, .int .i64 (-1)] w fun e w' => e = .returned (.float .f64 4609434218613702656) ∧ w' = w := by
  go_enter Tryz.func99, Tryz.ntmps99
  go_wp2_with (go_at_call 127; refine (ldexp_3 _).mono ?_; rintro e w1 ⟨rfl, hw⟩; have hw := hw.symm; subst hw)
  go_ret
  exact ⟨rfl, rfl⟩
theorem fldexp_75 (w : World) : Calls Tryz.prog 99 #[.float .f64 4604930618986332160, .int .i64 53] w fun e w' => e = .returned (.float .f64 4843621399236968448) ∧ w' = w := by
  go_enter Tryz.func99, Tryz.ntmps99
  go_wp2_with (go_at_call 127; refine (ldexp_75 _).mono ?_; rintro e w1 ⟨rfl, hw⟩; have hw := hw.symm; subst hw)
  go_ret
  exact ⟨rfl, rfl⟩
set_option maxRecDepth 100000 in
theorem apart_15 (w : World) (h : Tabs w) : Calls Tryz.prog 83 #[.float .f64 4609434218613702656] w fun e w' => e = .returned (.tuple #[.int .u64 3, .int .i64 (-1)]) ∧ w' = w := by
  have HT := Aside0.mk h
  have c1 : ∀ w, (convert 64 40 (.float .f64 4843621399236968448)).run Tryz.prog w = .ok (.int .u64 6755399441055744) w := fun w => run_convert_float_int _ _ _ _ _ _ _ (by kernel_rfl) Tryz.underlying40 (by decide +kernel)
  clear h
  go_enter Tryz.func83, Tryz.ntmps83
  go_wp2_with (first
    | (go_at_call 114; refine (ffrexp _).mono ?_; rintro e w1 ⟨rfl, hw⟩; have hw := hw.symm; subst hw)
    | (go_at_call 99; refine (fldexp_75 _).mono ?_; rintro e w1 ⟨rfl, hw⟩; have hw := hw.symm; subst hw)
    | (go_at_call 98; refine (zeros_b _ HT.out).mono ?_; rintro e w1 ⟨rfl, hw⟩; have hw := hw.symm; subst hw))
  go_ret2
  exact ⟨rfl, rfl⟩
theorem sparse_d (b : UInt8) (n : Int) (hb : (b.toNat : Int) = 48 + n) (hn : 0 ≤ n ∧ n ≤ 9) (w : World) : Calls Tryz.prog 122 #[.string ⟨#[b]⟩, .int .i64 10, .int .i64 64] w fun e w' => e = .returned (.tuple #[.int .u64 n, .nilIface]) ∧ Below w.heap.size w w' := by
  go_enter Tryz.func122, Tryz.ntmps122
  go_wp2_with (go_at_call 142; refine (parse_d b n hb hn _).mono ?_; rintro e w1 ⟨rfl, hb⟩; have HB := Aside0.mk hb; clear hb)
  go_ret2
  exact ⟨rfl, HB.out⟩
set_option maxRecDepth 100000 in
theorem digits_3 (w : World) : Calls Tryz.prog 93 #[.string ⟨#[51]⟩, .int .u64 18446744073709551615] w fun e w' => e = .returned (.int .u64 3) ∧ Below w.heap.size w w' := by
  go_enter Tryz.func93, Tryz.ntmps93
  go_wp2_with (first
    | (go_at_call 122; refine (sparse_d 51 3 rfl (by decide) _).mono ?_; rintro e w1 ⟨rfl, hb⟩; have HB := Aside0.mk hb; clear hb)
    | (go_at_call 53; refine (funtp_3 _).mono ?_; rintro e w2 ⟨rfl, hw⟩; have hw := hw.symm; subst hw)
    | (go_at_call 63; refine (must_ok _).mono ?_; rintro e w2 ⟨rfl, hw⟩; have hw := hw.symm; subst hw))
  go_ret
  exact ⟨rfl, HB.out⟩
set_option maxRecDepth 100000 in
theorem digits_1 (w : World) : Calls Tryz.prog 93 #[.string ⟨#[49]⟩, .int .u64 9999] w fun e w' => e = .returned (.int .u64 1) ∧ Below w.heap.size w w' := by
  go_enter Tryz.func93, Tryz.ntmps93
  go_wp2_with (first
    | (go_at_call 122; refine (sparse_d 49 1 rfl (by decide) _).mono ?_; rintro e w1 ⟨rfl, hb⟩; have HB := Aside0.mk hb; clear hb)
    | (go_at_call 53; refine (funtp_1 _).mono ?_; rintro e w2 ⟨rfl, hw⟩; have hw := hw.symm; subst hw)
    | (go_at_call 63; refine (must_ok _).mono ?_; rintro e w2 ⟨rfl, hw⟩; have hw := hw.symm; subst hw))
  go_ret
  exact ⟨rfl, HB.out⟩
theorem make_4 (W : World) : (Instr.makeSlice 22 (.int .i64 4) (.int .i64 4)).run Tryz.prog W = .ok (.slice (some ⟨W.heap.size, 0, none⟩) 4 4) (W.alloc (.cells #[.int .u8 0, .int .u8 0, .int .u8 0, .int .u8 0] 5)) := by
  have h := info_u8
  cases hi : Tryz.prog.info? 5 with
  | none => rw [hi] at h; cases h
  | some i =>
    rw [hi] at h
    simp only [Option.map_some, Option.some.injEq, Prod.mk.injEq] at h
    obtain ⟨h1, h2, h3⟩ := h
    have := run_makeSlice (P := Tryz.prog) (w := W) 22 5 i (.int .u8 0) Tryz.underlying22 hi h1 .i64 .i64 4 4 (by omega) (Int.le_refl _) (by rw [h2]; simp) (by rw [h3]; omega) (by omega)
    have hm : madeCells (Value.int .u8 0).cells (Int.toNat 4 * 1) = #[.int .u8 0, .int .u8 0, .int .u8 0, .int .u8 0] := by kernel_rfl
    rw [h2, hm] at this
    exact this
def pc : Nat → Array Value
  | 0 => #[.int .u8 0, .int .u8 0, .int .u8 0, .int .u8 0]
  | 1 => #[.int .u8 0, .int .u8 0, .int .u8 0, .int .u8 0]
  | 2 => #[.int .u8 0, .int .u8 0, .int .u8 0, .int .u8 0]
  | 3 => #[.int .u8 0, .int .u8 0, .int .u8 192, .int .u8 0]
  | _ => #[.int .u8 0, .int .u8 0, .int .u8 192, .int .u8 63]
set_option maxRecDepth 100000 in
set_option maxHeartbeats 1000000 in
/-- The four bytes of a float. -/
theorem put_15 (w : World) : Calls Tryz.prog 92 #[.int .u64 1069547520, .int .i64 4] w fun e w' => e = .returned (.slice (some ⟨w.heap.size, 0, none⟩) 4 4) ∧ w'.heap[w.heap.size]? = some (.cells #[.int .u8 0, .int .u8 0, .int .u8 192, .int .u8 63] 5 (0, 0)) ∧ Below w.heap.size w w' := by
  have hm := make_4
  go_enter Tryz.func92, Tryz.ntmps92
  go_wp2
  go_loopw [11] (fun iv wr => ∃ k : Nat, k ≤ 4 ∧ iv = .int .i64 k ∧ wr = w.alloc (.cells (pc k) 5)) (fun iv _ => 4 - (intOf iv).toNat)
  case atStart => exact ⟨0, by omega, rfl, rfl⟩
  case round =>
    obtain ⟨k, hk, rfl, rfl⟩ := hrel
    match k, hk with
    | 0, _ =>
      unfold pc
      go_wp2
      exact ⟨⟨1, by omega, rfl, rfl⟩, by simp [intOf]⟩
    | 1, _ =>
      unfold pc
      go_wp2
      exact ⟨⟨2, by omega, rfl, rfl⟩, by simp [intOf]⟩
    | 2, _ =>
      unfold pc
      go_wp2
      exact ⟨⟨3, by omega, rfl, rfl⟩, by simp [intOf]⟩
    | 3, _ =>
      unfold pc
      go_wp2
      exact ⟨⟨4, by omega, rfl, rfl⟩, by simp [intOf]⟩
    | 4, _ =>
      unfold pc
      go_wp2
      go_ret
      exact ⟨rfl, blk_new w _, below_alloc (Below.refl _ _) _⟩
    | k + 5, hk => omega
theorem tobits32 (y : Nat) (w : World) : (callFunc 124 #[.float .f32 y]).run Tryz.prog w = .ok (.value (.int .u32 y)) w := by
  rw [run_callFunc_extern Tryz.func124 (by kernel_rfl) (by kernel_rfl) (by kernel_rfl) (e := Extern.MathFloatBits.float32bits) (by kernel_rfl)]
  rfl
set_option maxRecDepth 100000 in
/-- A float as four bytes. -/
theorem bitsof_15 (w : World) : Calls Tryz.prog 95 #[.float .f64 4609434218613702656, .int .i64 4] w fun e w' => e = .returned (.slice (some ⟨w.heap.size, 0, none⟩) 4 4) ∧ w'.heap[w.heap.size]? = some (.cells #[.int .u8 0, .int .u8 0, .int .u8 192, .int .u8 63] 5 (0, 0)) ∧ Below w.heap.size w w' := by
  have c1 : ∀ w, (convert 64 95 (.float .f64 4609434218613702656)).run Tryz.prog w = .ok (.float .f32 1069547520) w := fun w => run_convert_float_float _ _ _ _ _ _ _ (by kernel_rfl) Tryz.underlying95 (by decide +kernel)
  have c2 : ∀ w, (convert 95 64 (.float .f32 1069547520)).run Tryz.prog w = .ok (.float .f64 4609434218613702656) w := fun w => run_convert_float_float _ _ _ _ _ _ _ (by kernel_rfl) Tryz.underlying64 (by decide +kernel)
  have o1 : (FloatKind.f64.format.order 4609434218613702656 4609434218613702656 == some Ordering.eq) = true := by decide +kernel
  have t1 := tobits32 1069547520
  go_enter Tryz.func95, Tryz.ntmps95
  go_wp2_with (first
    | (go_at_call 63; refine (must_ok _).mono ?_; rintro e w2 ⟨rfl, hw⟩; have hw := hw.symm; subst hw)
    | (go_at_call 92; refine (put_15 _).mono ?_; rintro e w2 ⟨rfl, h1, h2⟩; have H := Aside0.mk (And.intro h1 h2); clear h1 h2))
  go_ret
  exact ⟨rfl, H.out⟩
theorem copysign_15 (w : World) : Calls Tryz.prog 46 #[.float .f64 4609434218613702656, .float .f64 4607182418800017408] w fun e w' => e = .returned (.float .f64 4609434218613702656) ∧ w' = w := by
  have t1 := tobits64 4609434218613702656
  have t2 := tobits64 4607182418800017408
  have f1 := frombits64
  go_enter Tryz.func46, Tryz.ntmps46
  go_wp2
  go_ret
  exact ⟨by kernel_rfl, rfl⟩
set_option maxRecDepth 100000 in
set_option maxHeartbeats 1000000 in
theorem readreal (w : World) (h : Tabs w) : Calls Tryz.prog 65 #[.int .i64 4, .string ⟨#[51, 112, 45, 49]⟩] w fun e w' => ∃ g, e = .returned (.slice (some ⟨g, 0, none⟩) 4 4) ∧ w.heap.size ≤ g ∧ w'.heap[g]? = some (.cells #[.int .u8 0, .int .u8 0, .int .u8 192, .int .u8 63] 5 (0, 0)) ∧ Below w.heap.size w w' := by
  have HT := Aside0.mk h
  have c1 : ∀ w, (convert 40 64 (.int .u64 3)).run Tryz.prog w = .ok (.float .f64 4613937818241073152) w := fun w => by
    have h := run_convert_int_float (P := Tryz.prog) (w := w) 40 64 .u64 .f64 3 (by kernel_rfl) Tryz.underlying64
    rw [show floatOfInt .f64 3 = 4613937818241073152 by decide +kernel] at h
    exact h
  have o1 := pl_15.z
  have o2 : (FloatKind.f64.format.order 4609434218613702656 0 != some Ordering.eq) = true := by decide +kernel
  have T0 := Aside0.mk True.intro
  have T1 := Aside0.mk True.intro
  clear h
  go_enter Tryz.func65, Tryz.ntmps65
  go_wp2_with (first
    | (go_at_call 89; refine (pfx_nan _).mono ?_; rintro e w2 ⟨rfl, hw⟩; have hw := hw.symm; subst hw)
    | (have hg := T0.out; clear hg; go_at_call 94; refine (sign_1 _).mono ?_; clear T0; rintro e w2 ⟨rfl, hw⟩; have hw := hw.symm; subst hw)
    | (go_at_call 97; refine (cut_p _).mono ?_; rintro e w1 ⟨rfl, hb⟩; have HB1 := Aside0.mk hb; clear hb)
    | (go_at_call 63; with_reducible refine (must_ok _).mono ?_; rintro e w2 ⟨rfl, hw⟩; have hw := hw.symm; subst hw)
    | (have hg := T1.out; clear hg; go_at_call 93; refine (digits_3 _).mono ?_; clear T1; rintro e w2 ⟨rfl, hb⟩; have HB2 := Aside0.mk (HB1.out.trans (hb.mono HB1.out.size)); clear hb)
    | (go_at_call 94; refine (sign_2 _).mono ?_; rintro e w3 ⟨rfl, hw⟩; have hw := hw.symm; subst hw)
    | (go_at_call 93; refine (digits_1 _).mono ?_; rintro e w3 ⟨rfl, hb⟩; have HB3 := Aside0.mk (HB2.out.trans (hb.mono HB2.out.size)); clear hb)
    | (go_at_call 98; refine (zeros_3 _ (HT.out.below HB3.out)).mono ?_; rintro e w4 ⟨rfl, hw⟩; have hw := hw.symm; subst hw)
    | (go_at_call 91; refine (len64_3 _).mono ?_; rintro e w4 ⟨rfl, hw⟩; have hw := hw.symm; subst hw)
    | (go_at_call 99; refine (fldexp_3 _).mono ?_; rintro e w4 ⟨rfl, hw⟩; have hw := hw.symm; subst hw)
    | (go_at_call 82; refine (isinf_c _ pl_15.abs pl_15.nf _).mono ?_; rintro e w4 ⟨rfl, hw⟩; have hw := hw.symm; subst hw)
    | (go_at_call 83; refine (apart_15 _ (HT.out.below HB3.out)).mono ?_; rintro e w4 ⟨rfl, hw⟩; have hw := hw.symm; subst hw)
    | (go_at_call 46; refine (copysign_15 _).mono ?_; rintro e w4 ⟨rfl, hw⟩; have hw := hw.symm; subst hw)
    | (go_at_call 95; refine (bitsof_15 _).mono ?_; rintro e w4 ⟨rfl, h1, h2⟩; have H := Aside0.mk (And.intro h1 h2); clear h1 h2))
  go_ret
  exact ⟨_, rfl, HB3.out.size, H.out.1, HB3.out.trans (H.out.2.mono HB3.out.size)⟩
end Go.Proofs.YtcgcghldgomelaaGreatDoor.Mp
