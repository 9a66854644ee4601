/- The law's example of types: strings and floats. -/
import Derived.Test.YtcgcghldgomelaaGreatDoorYa
import Derived.Test.YtcgcghldgomelaaGreatDoorPfx
import Derived.Lib.Bytealg
import Derived.Deep.QuietTactic
import Derived.BigQuiet
namespace Go.Proofs.YtcgcghldgomelaaGreatDoor.Mp
open Go.RowKit Go.Shelf Go.Proofs.YtcgcghldgomelaaGreatDoor.Rng Go.Proofs.YtcgcghldgomelaaGreatDoorW.PrintWords Go.Proofs.YtcgcghldgomelaaGreatDoorW.PrintMore Go.Proofs.YtcgcghldgomelaaGreatDoorW.PrintLast

theorem pfx_nan (w : World) : Calls Tryz.prog 89 #[.string ⟨#[51, 112, 45, 49]⟩, .string ⟨#[110, 97, 110, 58]⟩] w fun e w' => e = .returned (.tuple #[.string ⟨#[51, 112, 45, 49]⟩, .bool false]) ∧ w' = w := by
  refine (Frm.str_CutPrefix _ _ w).mono ?_
  rintro e w' ⟨rfl, rfl⟩
  exact ⟨by rfl, rfl⟩
theorem pfx_m1 (w : World) : Calls Tryz.prog 89 #[.string ⟨#[51, 112, 45, 49]⟩, .string ⟨#[45]⟩] w fun e w' => e = .returned (.tuple #[.string ⟨#[51, 112, 45, 49]⟩, .bool false]) ∧ w' = w := by
  refine (Frm.str_CutPrefix _ _ w).mono ?_
  rintro e w' ⟨rfl, rfl⟩
  exact ⟨by rfl, rfl⟩
theorem pfx_m2 (w : World) : Calls Tryz.prog 89 #[.string ⟨#[45, 49]⟩, .string ⟨#[45]⟩] w fun e w' => e = .returned (.tuple #[.string ⟨#[49]⟩, .bool true]) ∧ w' = w := by
  refine (Frm.str_CutPrefix _ _ w).mono ?_
  rintro e w' ⟨rfl, rfl⟩
  exact ⟨by rfl, rfl⟩
theorem sign_1 (w : World) : Calls Tryz.prog 94 #[.string ⟨#[51, 112, 45, 49]⟩] w fun e w' => e = .returned (.tuple #[.string ⟨#[51, 112, 45, 49]⟩, .bool false]) ∧ w' = w := by
  go_enter Tryz.func94, Tryz.ntmps94
  go_wp2_with (go_at_call 89; refine (pfx_m1 _).mono ?_; rintro e w1 ⟨rfl, hw⟩; have hw := hw.symm; subst hw)
  go_ret2
  exact ⟨rfl, rfl⟩
theorem sign_2 (w : World) : Calls Tryz.prog 94 #[.string ⟨#[45, 49]⟩] w fun e w' => e = .returned (.tuple #[.string ⟨#[49]⟩, .bool true]) ∧ w' = w := by
  go_enter Tryz.func94, Tryz.ntmps94
  go_wp2_with (go_at_call 89; refine (pfx_m2 _).mono ?_; rintro e w1 ⟨rfl, hw⟩; have hw := hw.symm; subst hw)
  go_ret2
  exact ⟨rfl, rfl⟩
set_option maxHeartbeats 1000000 in
set_option maxRecDepth 100000 in
theorem lib_index (s : ByteArray) (c : Int) (w : World) :
    Calls Tryz.prog 160 #[.string s, .int .u8 c] w fun e w' => e = .returned (.int .i64 (Lib.indexByte s.data.toList c.toNat.toUInt8)) ∧ w' = w := by
  go_enter Tryz.func160, Tryz.ntmps160
  go_wp2
  rw [run_callFunc_extern Tryz.func168 (by kernel_rfl) (by kernel_rfl) (by kernel_rfl) (e := Extern.BytealgIndexByte.indexByte) (by kernel_rfl), Lib.run_indexByteString]
  simp only [Result.andThen]
  rw [Oper.upon_value]
  go_wp2
  go_ret
  exact ⟨rfl, rfl⟩
theorem index_p (w : World) : Calls Tryz.prog 160 #[.string ⟨#[51, 112, 45, 49]⟩, .int .u8 112] w fun e w' => e = .returned (.int .i64 1) ∧ w' = w := by
  refine (lib_index _ _ w).mono ?_
  rintro e w' ⟨rfl, rfl⟩
  exact ⟨by rfl, rfl⟩
set_option maxRecDepth 100000 in
theorem indexs_p (w : World) : Calls Tryz.prog 145 #[.string ⟨#[51, 112, 45, 49]⟩, .string ⟨#[112]⟩] w fun e w' => e = .returned (.int .i64 1) ∧ w' = w := by
  have hne : (ByteArray.toList ⟨#[112]⟩ == ByteArray.toList ⟨#[51, 112, 45, 49]⟩) = false := by decide +kernel
  go_enter Tryz.func145, Tryz.ntmps145
  go_wp2_with (go_at_call 160; refine (index_p _).mono ?_; rintro e w1 ⟨rfl, hw⟩; have hw := hw.symm; subst hw)
  go_ret
  exact ⟨rfl, rfl⟩
set_option maxRecDepth 100000 in
theorem cuts_p (w : World) : Calls Tryz.prog 125 #[.string ⟨#[51, 112, 45, 49]⟩, .string ⟨#[112]⟩] w fun e w' => e = .returned (.tuple #[.string ⟨#[51]⟩, .string ⟨#[45, 49]⟩, .bool true]) ∧ Below w.heap.size w w' := by
  go_enter Tryz.func125, Tryz.ntmps125
  go_wp2_with (go_at_call 145; refine (indexs_p _).mono ?_; rintro e w1 ⟨rfl, hw⟩; have hw := hw.symm; subst hw)
  repeat (go_quiet (fail); try go_wp2)
  go_ret3
  exact ⟨rfl, below_drewN (Below.refl _ _) _⟩
set_option maxRecDepth 100000 in
theorem cut_p (w : World) : Calls Tryz.prog 97 #[.string ⟨#[51, 112, 45, 49]⟩, .string ⟨#[112]⟩] w fun e w' => e = .returned (.tuple #[.string ⟨#[51]⟩, .string ⟨#[45, 49]⟩, .bool true]) ∧ Below w.heap.size w w' := by
  go_enter Tryz.func97, Tryz.ntmps97
  go_wp2_with (go_at_call 125; refine (cuts_p _).mono ?_; rintro e w1 ⟨rfl, hb⟩; have HB := Aside0.mk hb; clear hb)
  go_ret3
  exact ⟨rfl, HB.out⟩
set_option maxRecDepth 100000 in
theorem must_ok (w : World) : Calls Tryz.prog 63 #[.bool true] w fun e w' => e = .returned (.tuple #[]) ∧ w' = w := by
  go_enter Tryz.func63, Tryz.ntmps63
  go_wp2
  go_end0
  exact ⟨rfl, rfl⟩
set_option maxRecDepth 100000 in
theorem abs_c (x : Nat) (h : (bits .andNot .u64 x 9223372036854775808).toNat = x) (w : World) : Calls Tryz.prog 84 #[.float .f64 x] w fun e w' => e = .returned (.float .f64 x) ∧ w' = w := by
  have t1 := tobits64 x
  have f1 := frombits64
  go_enter Tryz.func84, Tryz.ntmps84
  go_wp2
  go_ret
  exact ⟨rfl, rfl⟩
set_option maxRecDepth 100000 in
theorem isinf_c (x : Nat) (h : (bits .andNot .u64 x 9223372036854775808).toNat = x) (ho : (FloatKind.f64.format.order x 9218868437227405311 == some Ordering.gt) = false) (w : World) : Calls Tryz.prog 82 #[.float .f64 x, .int .i64 0] w fun e w' => e = .returned (.bool false) ∧ w' = w := by
  go_enter Tryz.func82, Tryz.ntmps82
  go_wp2_with (go_at_call 84; refine (abs_c x h _).mono ?_; rintro e w1 ⟨rfl, hw⟩; have hw := hw.symm; subst hw)
  go_ret
  exact ⟨by first | rfl | (rw [← ho]; rfl), rfl⟩
set_option maxRecDepth 100000 in
theorem normal_c (x : Nat) (h : (bits .andNot .u64 x 9223372036854775808).toNat = x) (ho : (FloatKind.f64.format.order x 4503599627370496 == some Ordering.lt) = false) (w : World) : Calls Tryz.prog 146 #[.float .f64 x] w fun e w' => e = .returned (.tuple #[.float .f64 x, .int .i64 0]) ∧ w' = w := by
  go_enter Tryz.func146, Tryz.ntmps146
  go_wp2_with (go_at_call 84; refine (abs_c x h _).mono ?_; rintro e w1 ⟨rfl, hw⟩; have hw := hw.symm; subst hw)
  go_ret2
  exact ⟨rfl, rfl⟩
/-- A float that is neither 0 nor infinite nor NaN, nor too small. -/
structure Plain64 (x : Nat) : Prop where
  abs : (bits .andNot .u64 x 9223372036854775808).toNat = x
  z : (FloatKind.f64.format.order x 0 == some Ordering.eq) = false
  nf : (FloatKind.f64.format.order x 9218868437227405311 == some Ordering.gt) = false
  sm : (FloatKind.f64.format.order x 4503599627370496 == some Ordering.lt) = false
  nn : ordF x x = some .eq
theorem pl_15 : Plain64 4609434218613702656 := ⟨by decide +kernel, by decide +kernel, by decide +kernel, by decide +kernel, by decide +kernel⟩
theorem pl_3 : Plain64 4613937818241073152 := ⟨by decide +kernel, by decide +kernel, by decide +kernel, by decide +kernel, by decide +kernel⟩
theorem pl_75 : Plain64 4604930618986332160 := ⟨by decide +kernel, by decide +kernel, by decide +kernel, by decide +kernel, by decide +kernel⟩
set_option maxRecDepth 100000 in
set_option maxHeartbeats 1000000 in
theorem frexp_15 (w : World) : Calls Tryz.prog 137 #[.float .f64 4609434218613702656] w fun e w' => e = .returned (.tuple #[.float .f64 4604930618986332160, .int .i64 1]) ∧ w' = w := by
  have h0 := pl_15.z
  have t1 := tobits64 4609434218613702656
  have f1 := frombits64
  go_enter Tryz.func137, Tryz.ntmps137
  go_wp2_with (first
    | (go_at_call 82; refine (isinf_c _ pl_15.abs pl_15.nf _).mono ?_; rintro e w1 ⟨rfl, hw⟩; have hw := hw.symm; subst hw)
    | (go_at_call 44; refine (misnan_no pl_15.nn _).mono ?_; rintro e w1 ⟨rfl, hw⟩; have hw := hw.symm; subst hw)
    | (go_at_call 146; refine (normal_c _ pl_15.abs pl_15.sm _).mono ?_; rintro e w1 ⟨rfl, hw⟩; have hw := hw.symm; subst hw))
  go_ret2
  exact ⟨by kernel_rfl, rfl⟩
set_option maxRecDepth 100000 in
set_option maxHeartbeats 1000000 in
theorem ldexp_3 (w : World) : Calls Tryz.prog 127 #[.float .f64 4613937818241073152, .int .i64 (-1)] w fun e w' => e = .returned (.float .f64 4609434218613702656) ∧ w' = w := by
  have h0 := pl_3.z
  have t1 := tobits64 4613937818241073152
  have f1 := frombits64
  have m1 : floatBits .mul .f64 4607182418800017408 4609434218613702656 = some 4609434218613702656 := by decide +kernel
  have m2 : ∀ w, (binOp .mul 64 (.float .f64 4607182418800017408) (.float .f64 4609434218613702656)).run Tryz.prog w = .ok (.float .f64 4609434218613702656) w := fun w => run_float_arith _ _ _ _ _ _ _ m1
  have b1 : bits BinOp.and IntKind.i64 1024 2047 = 1024 := by decide +kernel
  have b2 : bits BinOp.andNot IntKind.u64 4613937818241073152 9218868437227405312 = 2251799813685248 := by decide +kernel
  have b3 : bits BinOp.or IntKind.u64 2251799813685248 4607182418800017408 = 4609434218613702656 := by decide +kernel
  go_enter Tryz.func127, Tryz.ntmps127
  go_wp2_with (first
    | (go_at_call 82; refine (isinf_c _ pl_3.abs pl_3.nf _).mono ?_; rintro e w1 ⟨rfl, hw⟩; have hw := hw.symm; subst hw)
    | (go_at_call 44; refine (misnan_no pl_3.nn _).mono ?_; rintro e w1 ⟨rfl, hw⟩; have hw := hw.symm; subst hw)
    | (go_at_call 146; refine (normal_c _ pl_3.abs pl_3.sm _).mono ?_; rintro e w1 ⟨rfl, hw⟩; have hw := hw.symm; subst hw))
  go_ret
  exact ⟨rfl, rfl⟩
set_option maxRecDepth 100000 in
set_option maxHeartbeats 1000000 in
theorem ldexp_75 (w : World) : Calls Tryz.prog 127 #[.float .f64 4604930618986332160, .int .i64 53] w fun e w' => e = .returned (.float .f64 4843621399236968448) ∧ w' = w := by
  have h0 := pl_75.z
  have t1 := tobits64 4604930618986332160
  have f1 := frombits64
  have m1 : floatBits .mul .f64 4607182418800017408 4843621399236968448 = some 4843621399236968448 := by decide +kernel
  have m2 : ∀ w, (binOp .mul 64 (.float .f64 4607182418800017408) (.float .f64 4843621399236968448)).run Tryz.prog w = .ok (.float .f64 4843621399236968448) w := fun w => run_float_arith _ _ _ _ _ _ _ m1
  have b1 : bits BinOp.and IntKind.i64 1022 2047 = 1022 := by decide +kernel
  have b2 : bits BinOp.andNot IntKind.u64 4604930618986332160 9218868437227405312 = 2251799813685248 := by decide +kernel
  have b3 : bits BinOp.or IntKind.u64 2251799813685248 4841369599423283200 = 4843621399236968448 := by decide +kernel
  go_enter Tryz.func127, Tryz.ntmps127
  go_wp2_with (first
    | (go_at_call 82; refine (isinf_c _ pl_75.abs pl_75.nf _).mono ?_; rintro e w1 ⟨rfl, hw⟩; have hw := hw.symm; subst hw)
    | (go_at_call 44; refine (misnan_no pl_75.nn _).mono ?_; rintro e w1 ⟨rfl, hw⟩; have hw := hw.symm; subst hw)
    | (go_at_call 146; refine (normal_c _ pl_75.abs pl_75.sm _).mono ?_; rintro e w1 ⟨rfl, hw⟩; have hw := hw.symm; subst hw))
  go_ret
  exact ⟨rfl, rfl⟩
end Go.Proofs.YtcgcghldgomelaaGreatDoor.Mp
