/- types.real, and floats in order. -/
import Derived.Test.YtcgcghldgomelaaGreatDoorTcw
import Derived.Test.YtcgcghldgomelaaGreatDoorWid
import Derived.Laws.FloatArith
namespace Go.Proofs.YtcgcghldgomelaaGreatDoor.Mp
open Go.RowKit Go.Shelf Go.Proofs.YtcgcghldgomelaaGreatDoor.Rng Go.Proofs.YtcgcghldgomelaaGreatDoorW.PrintWords Go.Proofs.YtcgcghldgomelaaGreatDoorW.PrintMore Go.Proofs.YtcgcghldgomelaaGreatDoor.Num

/-- Floats of 64 bits in order. -/
abbrev ordF (X Y : Nat) : Option Ordering := FloatKind.f64.format.order X Y
/-- The bits of a float of 4 bytes, in 64. -/
def wideF (y : Nat) : Nat := FloatKind.f64.encode (FloatKind.f32.decode y)
def nanF (zs : List Int) : Prop := if zs.length = 4 then (FloatKind.f32.decode (num zs).toNat).isNaN = true else ordF (num zs).toNat (num zs).toNat ≠ some .eq
instance (zs : List Int) : Decidable (nanF zs) := by unfold nanF; split <;> infer_instance
def bitF (zs : List Int) : Nat := if zs.length = 4 then wideF (num zs).toNat else (num zs).toNat
theorem frombits64 (y : Int) (w : World) : (callFunc 72 #[.int .u64 y]).run Tryz.prog w = .ok (.value (.float .f64 y.toNat)) w := by
  rw [run_callFunc_extern Tryz.func72 (by kernel_rfl) (by kernel_rfl) (by kernel_rfl) (e := Extern.MathFloatBits.float64frombits) (by kernel_rfl)]
  rfl
theorem frombits32 (y : Int) (w : World) : (callFunc 71 #[.int .u32 y]).run Tryz.prog w = .ok (.value (.float .f32 y.toNat)) w := by
  rw [run_callFunc_extern Tryz.func71 (by kernel_rfl) (by kernel_rfl) (by kernel_rfl) (e := Extern.MathFloatBits.float32frombits) (by kernel_rfl)]
  rfl
theorem tobits64 (y : Nat) (w : World) : (callFunc 74 #[.float .f64 y]).run Tryz.prog w = .ok (.value (.int .u64 y)) w := by
  rw [run_callFunc_extern Tryz.func74 (by kernel_rfl) (by kernel_rfl) (by kernel_rfl) (e := Extern.MathFloatBits.float64bits) (by kernel_rfl)]
  rfl
set_option maxRecDepth 100000 in
theorem real_8 (A : Option Addr) (c : Nat) (zs : List Int) (w : World) (hz : Rd w A zs) (hb : Byt zs) (hl : zs.length = 8) :
    Calls Tryz.prog 43 #[.slice A 8 c] w fun e w' => e = .returned (.float .f64 (num zs).toNat) ∧ Below w.heap.size w w' := by
  have HNB := Aside0.mk (number_any A c zs w hz hb (by omega))
  have h0 := num_nonneg hb
  have h1 := num_lt hb
  rw [hl] at h1 HNB
  generalize num zs = y at h0 h1 HNB ⊢
  have f1 := frombits64 y
  have f2 := frombits32 y
  go_enter Tryz.func43, Tryz.ntmps43
  go_wp2_with (go_at_call 49; refine HNB.out.mono ?_; rintro e w1 ⟨rfl, hb⟩; have HB := Aside0.mk hb; clear hb)
  go_ret
  exact ⟨rfl, HB.out⟩
theorem wide_bits {y : Nat} (h : (FloatKind.f32.decode y).isNaN = false) : floatToFloatBits .f32 y .f64 = some (wideF y) ∧ wideF y < 18446744073709551616 := by
  unfold floatToFloatBits wideF
  rw [if_neg (by decide)]
  cases hd : FloatKind.f32.decode y with
  | nan s f => rw [hd] at h; cases h
  | infinity s => exact ⟨rfl, (double_inf s).2⟩
  | number s m e =>
    obtain ⟨h1, h2, h3⟩ := single_number (show Ieee.single.read y = .number s m e from hd)
    by_cases hm : m = 0
    · subst hm
      obtain ⟨h4, h5⟩ := double_zero s e
      refine ⟨?_, h5⟩
      have h6 : FloatKind.f64.decode (FloatKind.f64.encode (.number s 0 e)) = .number s 0 (-1074) := h4
      simp only [h6]
      rfl
    · obtain ⟨h4, h5⟩ := double_number s m e (by omega) h1 ⟨h2, h3⟩
      refine ⟨?_, h5⟩
      have h6 : FloatKind.f64.decode (FloatKind.f64.encode (.number s m e)) = _ := h4
      simp only [h6]
      rfl
set_option maxRecDepth 100000 in
theorem conv_num {y : Nat} (h : (FloatKind.f32.decode y).isNaN = false) (w : World) : (convert 95 64 (.float .f32 y)).run Tryz.prog w = .ok (.float .f64 (wideF y)) w :=
  run_convert_float_float _ _ _ _ _ _ _ (by kernel_rfl) Tryz.underlying64 (wide_bits h).1
theorem nan_order {X : Nat} (h1 : 9218868437227405312 < X % 9223372036854775808) (Y : Nat) : ordF X Y = none ∧ ordF Y X = none := by
  have h : ∃ s f, Ieee.double.read X = .nan s f := by
    have bin : Ieee.double.binade = 4503599627370496 := by decide +kernel
    have inf : Ieee.double.infRung = 9218868437227405312 := by decide +kernel
    have sw : Ieee.double.signWeight = 9223372036854775808 := by decide +kernel
    unfold Ieee.Format.read
    rw [sw, bin, inf, if_neg (by omega), if_neg (by omega), if_neg (by omega)]
    exact ⟨_, _, rfl⟩
  obtain ⟨s, f, h⟩ := h
  constructor
  · show (Ieee.double.read X).order (Ieee.double.read Y) = none
    rw [h]
    rfl
  · show (Ieee.double.read Y).order (Ieee.double.read X) = none
    rw [h]
    cases Ieee.double.read Y <;> rfl
theorem conv_nan {y : Nat} (h : (FloatKind.f32.decode y).isNaN = true) : ∃ F : World → Nat, (∀ w, (convert 95 64 (.float .f32 y)).run Tryz.prog w = .ok (.float .f64 (F w)) w.drew) ∧ ∀ w X, ordF (F w) X = none ∧ ordF X (F w) = none := by
  refine ⟨fun w => Question.cut (.nanConv .f64 y) (w.tape w.drawn (.nanConv .f64 y)), fun w => ?_, fun w X => nan_order ?_ X⟩
  · cases hd : FloatKind.f32.decode y with
    | number s m e => rw [hd] at h; cases h
    | infinity s => rw [hd] at h; cases h
    | nan s f =>
      have hu : Tryz.prog.underlying 95 = some (.float .f32) := Tryz.underlying95
      simp [convert, run_underlying hu, run_underlying Tryz.underlying64, Conv.floatToFloat, hd, Question.forced, Result.andThen]
  · show 9218868437227405312 < Question.cut (.nanConv .f64 y) (w.tape w.drawn (.nanConv .f64 y)) % 9223372036854775808
    generalize w.tape w.drawn (.nanConv .f64 y) = t
    have e : Question.cut (.nanConv .f64 y) t = (t % 2) * 9223372036854775808 + (9218868437227405312 + 1 + (t / 2) % 4503599627370495) := by
      show (t % 2) * 9223372036854775808 + 9218868437227405312 + 1 + (t / 2) % 4503599627370495 = _
      omega
    rw [e, Nat.mul_add_mod_self_right]
    omega
set_option maxRecDepth 100000 in
theorem real_4 (A : Option Addr) (c : Nat) (zs : List Int) (w : World) (hz : Rd w A zs) (hb : Byt zs) (hl : zs.length = 4) (hn : ¬ nanF zs) :
    Calls Tryz.prog 43 #[.slice A 4 c] w fun e w' => e = .returned (.float .f64 (wideF (num zs).toNat)) ∧ Below w.heap.size w w' := by
  have HNB := Aside0.mk (number_any A c zs w hz hb (by omega))
  have h0 := num_nonneg hb
  have h1 := num_lt hb
  unfold nanF at hn
  rw [if_pos hl, Bool.not_eq_true] at hn
  rw [hl] at h1 HNB
  generalize num zs = y at h0 h1 HNB hn ⊢
  have f2 := frombits32 y
  have f3 := conv_num hn
  simp only [Int.pow_succ, Int.pow_zero] at h1
  go_enter Tryz.func43, Tryz.ntmps43
  go_wp2_with (go_at_call 49; refine HNB.out.mono ?_; rintro e w1 ⟨rfl, hb⟩; have HB := Aside0.mk hb; clear hb)
  go_ret
  exact ⟨rfl, HB.out⟩
set_option maxRecDepth 100000 in
theorem real_n (A : Option Addr) (c : Nat) (zs : List Int) (w : World) (hz : Rd w A zs) (hb : Byt zs) (hl : zs.length = 4) (hn : nanF zs) :
    Calls Tryz.prog 43 #[.slice A 4 c] w fun e w' => ∃ X, e = .returned (.float .f64 X) ∧ (∀ Y, ordF X Y = none ∧ ordF Y X = none) ∧ Below w.heap.size w w' := by
  have HNB := Aside0.mk (number_any A c zs w hz hb (by omega))
  have h0 := num_nonneg hb
  have h1 := num_lt hb
  unfold nanF at hn
  rw [if_pos hl] at hn
  rw [hl] at h1 HNB
  generalize num zs = y at h0 h1 HNB hn ⊢
  have f2 := frombits32 y
  obtain ⟨F, f3, f4⟩ := conv_nan hn
  have F4 := Aside0.mk f4
  clear f4
  simp only [Int.pow_succ, Int.pow_zero] at h1
  go_enter Tryz.func43, Tryz.ntmps43
  go_wp2_with (go_at_call 49; refine HNB.out.mono ?_; rintro e w1 ⟨rfl, hb⟩; have HB := Aside0.mk hb; clear hb)
  go_ret
  exact ⟨_, rfl, F4.out _, HB.out.drew⟩
end Go.Proofs.YtcgcghldgomelaaGreatDoor.Mp
