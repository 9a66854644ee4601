/- The order of floats is that of their bits, sign and size. -/
import Derived.Test.YtcgcghldgomelaaGreatDoorTfc
import Derived.Test.YtcgcghldgomelaaGreatDoorWid
namespace Go.Proofs.YtcgcghldgomelaaGreatDoor.Mp
open Ieee

/-- The magnitude of a rung. -/
def magR (B r : Nat) : Nat := if r < B then r else (B + r % B) * 2 ^ (r / B - 1)
theorem magR_lt {B r r' : Nat} (hB : 0 < B) (h : r < r') : magR B r < magR B r' := by
  unfold magR
  have hd := Nat.div_add_mod r B
  have hd' := Nat.div_add_mod r' B
  have hm := Nat.mod_lt r hB
  have hm' := Nat.mod_lt r' hB
  by_cases h1 : r < B
  · rw [if_pos h1]
    by_cases h2 : r' < B
    · rw [if_pos h2]
      exact h
    · rw [if_neg h2]
      have : B ≤ (B + r' % B) * 2 ^ (r' / B - 1) := Nat.le_trans (Nat.le_add_right B _) (Nat.le_mul_of_pos_right _ (Nat.two_pow_pos _))
      omega
  · rw [if_neg h1, if_neg (by omega)]
    have hq : r / B ≤ r' / B := Nat.div_le_div_right (Nat.le_of_lt h)
    have hq1 : 0 < r / B := Nat.div_pos (by omega) hB
    generalize r / B = q at *
    generalize r' / B = q' at *
    generalize r % B = s at *
    generalize r' % B = s' at *
    by_cases he : q = q'
    · subst he
      exact Nat.mul_lt_mul_of_pos_right (by omega) (Nat.two_pow_pos _)
    · have e1 : (B + s) * 2 ^ (q - 1) < (2 * B) * 2 ^ (q - 1) := Nat.mul_lt_mul_of_pos_right (by omega) (Nat.two_pow_pos _)
      have e2 : (2 * B) * 2 ^ (q - 1) = B * 2 ^ q := by
        obtain ⟨p, rfl⟩ : ∃ p, q = p + 1 := ⟨q - 1, by omega⟩
        rw [Nat.add_sub_cancel, Nat.pow_succ, Nat.mul_comm 2 B, Nat.mul_assoc, Nat.mul_comm 2]
      have e3 : B * 2 ^ q ≤ B * 2 ^ (q' - 1) := Nat.mul_le_mul_left _ (Nat.pow_le_pow_right (by omega) (by omega))
      have e4 : B * 2 ^ (q' - 1) ≤ (B + s') * 2 ^ (q' - 1) := Nat.mul_le_mul_right _ (by omega)
      omega
def sg (s : Bool) (x : Nat) : Int := if s = true then -(x : Int) else x
theorem cmp_if (a b : Int) : compare a b = if a < b then Ordering.lt else if a = b then .eq else .gt := rfl
theorem cmp_iff {a b c d : Int} (h1 : a < b ↔ c < d) (h2 : a = b ↔ c = d) : compare a b = compare c d := by
  rw [cmp_if, cmp_if]
  by_cases ha : a < b
  · rw [if_pos ha, if_pos (h1.1 ha)]
  · rw [if_neg ha, if_neg (fun h => ha (h1.2 h))]
    by_cases hb : a = b
    · rw [if_pos hb, if_pos (h2.1 hb)]
    · rw [if_neg hb, if_neg (fun h => hb (h2.2 h))]
theorem cmp_scale (a b : Int) (c : Nat) (hc : 0 < c) : compare (a * c) (b * c) = compare a b := by
  have hc' : (0 : Int) < c := by omega
  refine cmp_iff ?_ ?_
  · exact Int.mul_lt_mul_right hc'
  · exact ⟨fun h => Int.eq_of_mul_eq_mul_right (by omega) h, fun h => by rw [h]⟩
theorem sg_mul (s : Bool) (x c : Nat) : sg s (x * c) = sg s x * c := by
  unfold sg
  cases s
  · simp
  · simp [Int.neg_mul]
/-- A finite datum, and its value in units of 2 ^ -1074. -/
def Fin_ (d : Datum) (z : Int) : Prop := ∃ s m e, d = .number s m e ∧ -1074 ≤ e ∧ z = sg s (m * 2 ^ (e + 1074).toNat)
theorem fin_order {d d' : Datum} {z z' : Int} (h : Fin_ d z) (h' : Fin_ d' z') : d.order d' = some (compare z z') := by
  obtain ⟨s, m, i, rfl, hi, rfl⟩ := h
  obtain ⟨t, n, j, rfl, hj, rfl⟩ := h'
  show some (compare (signed s m (i - min i j).toNat) (signed t n (j - min i j).toNat)) = _
  congr 1
  have e1 : m * 2 ^ (i + 1074).toNat = (m * 2 ^ (i - min i j).toNat) * 2 ^ (min i j + 1074).toNat := by
    rw [Nat.mul_assoc, ← Nat.pow_add]
    congr 2
    omega
  have e2 : n * 2 ^ (j + 1074).toNat = (n * 2 ^ (j - min i j).toNat) * 2 ^ (min i j + 1074).toNat := by
    rw [Nat.mul_assoc, ← Nat.pow_add]
    congr 2
    omega
  rw [e1, e2, sg_mul s (m * 2 ^ (i - min i j).toNat) (2 ^ (min i j + 1074).toNat), sg_mul t (n * 2 ^ (j - min i j).toNat) (2 ^ (min i j + 1074).toNat), cmp_scale _ _ _ (Nat.two_pow_pos _)]
  unfold signed sg
  simp only [shl_mul]
theorem mono_cmp {f : Nat → Nat} (h0 : f 0 = 0) (hf : ∀ a b, a < b → f a < f b) (s t : Bool) (a b : Nat) : compare (sg s (f a)) (sg t (f b)) = compare (sg s a) (sg t b) := by
  have hp : ∀ a, 0 < a → 0 < f a := fun a h => by have := hf 0 a h; omega
  have hz : ∀ a, f a = 0 ↔ a = 0 := fun a => ⟨fun h => by rcases Nat.eq_zero_or_pos a with e | e; exact e; have := hp a e; omega, fun h => by rw [h, h0]⟩
  have hza := hz a
  have hzb := hz b
  have hab : f a < f b ↔ a < b := ⟨fun h => by
    rcases Nat.lt_trichotomy a b with e | e | e
    · exact e
    · subst e; omega
    · have := hf b a e; omega, hf a b⟩
  have hba : f b < f a ↔ b < a := ⟨fun h => by
    rcases Nat.lt_trichotomy b a with e | e | e
    · exact e
    · subst e; omega
    · have := hf a b e; omega, hf b a⟩
  unfold sg
  cases s <;> cases t <;> simp only [Bool.false_eq_true, if_false, if_true] <;> refine cmp_iff ?_ ?_ <;> omega
theorem magR_0 (B : Nat) (hB : 0 < B) : magR B 0 = 0 := by unfold magR; rw [if_pos hB]
theorem dbl_inf : double.infRung = 9218868437227405312 := by decide +kernel
/-- Sign and rung of a word of 64 bits. -/
def ngD (X : Nat) : Bool := X / 9223372036854775808 % 2 == 1
def rgD (X : Nat) : Nat := X % 9223372036854775808
theorem read_fin (X : Nat) (h : rgD X < 9218868437227405312) : Fin_ (double.read X) (sg (ngD X) (magR 4503599627370496 (rgD X))) := by
  have lp : double.leastPlace = -1074 := by decide +kernel
  have bin : double.binade = 4503599627370496 := by decide +kernel
  have sw : double.signWeight = 9223372036854775808 := by decide +kernel
  unfold Format.read
  rw [sw, bin, dbl_inf, lp]
  unfold rgD at h ⊢
  unfold magR ngD
  by_cases h1 : X % 9223372036854775808 < 4503599627370496
  · simp only [if_pos h1]
    exact ⟨_, _, _, rfl, by omega, by simp⟩
  · simp only [if_neg h1, if_pos h]
    refine ⟨_, _, _, rfl, by omega, ?_⟩
    congr 3
    omega
theorem read_inf (X : Nat) (h : rgD X = 9218868437227405312) : double.read X = .infinity (ngD X) := by
  have lp : double.leastPlace = -1074 := by decide +kernel
  have bin : double.binade = 4503599627370496 := by decide +kernel
  have sw : double.signWeight = 9223372036854775808 := by decide +kernel
  unfold Format.read
  rw [sw, bin, dbl_inf, lp]
  unfold rgD at h
  unfold ngD
  simp only [h]
  rfl
/-- What an ordered datum is, by sign and size: finite, or an infinity beyond them. -/
inductive Rep (M : Nat → Nat) (inf : Nat) (d : Datum) (s : Bool) (r : Nat) : Prop
  | fin (h : r < inf) (hd : Fin_ d (sg s (M r)))
  | inf (h : r = inf) (hd : d = .infinity s)
theorem rep_order {M : Nat → Nat} {inf : Nat} (h0 : M 0 = 0) (hM : ∀ a b, a < b → M a < M b) (hi : 0 < inf) {d d' : Datum} {s t : Bool} {r r' : Nat} (h : Rep M inf d s r) (h' : Rep M inf d' t r') : d.order d' = some (compare (sg s r) (sg t r')) := by
  rcases h with ⟨h, hd⟩ | ⟨h, rfl⟩ <;> rcases h' with ⟨h', hd'⟩ | ⟨h', rfl⟩
  · rw [fin_order hd hd', mono_cmp h0 hM]
  · obtain ⟨s', m, e, rfl, -, -⟩ := hd
    show some (if t = true then Ordering.gt else .lt) = _
    rw [cmp_if]
    unfold sg
    congr 1
    cases s <;> cases t <;> simp only [Bool.false_eq_true, if_false, if_true] <;> (first | rw [if_pos (by omega)] | rw [if_neg (by omega), if_neg (by omega)])
  · obtain ⟨s', m, e, rfl, -, -⟩ := hd'
    show some (if s = true then Ordering.lt else .gt) = _
    rw [cmp_if]
    unfold sg
    congr 1
    cases s <;> cases t <;> simp only [Bool.false_eq_true, if_false, if_true] <;> (first | rw [if_pos (by omega)] | rw [if_neg (by omega), if_neg (by omega)])
  · show some (compare t.toNat s.toNat) = _
    subst h h'
    rw [cmp_if]
    unfold sg
    congr 1
    cases s <;> cases t <;> simp only [Bool.false_eq_true, if_false, if_true] <;> first | (rw [if_pos (by omega)]; rfl) | (rw [if_neg (by omega), if_neg (by omega)]; rfl) | (rw [if_neg (by omega), if_pos (by omega)]; rfl) | (simp; rfl) | simp
theorem rep_D (X : Nat) (h : rgD X ≤ 9218868437227405312) : Rep (magR 4503599627370496) 9218868437227405312 (double.read X) (ngD X) (rgD X) := by
  by_cases e : rgD X = 9218868437227405312
  · exact .inf e (read_inf X e)
  · exact .fin (by omega) (read_fin X (by omega))
theorem ord_D (X Y : Nat) (hX : rgD X ≤ 9218868437227405312) (hY : rgD Y ≤ 9218868437227405312) : ordF X Y = some (compare (sg (ngD X) (rgD X)) (sg (ngD Y) (rgD Y))) :=
  rep_order (magR_0 _ (by decide)) (fun a b h => magR_lt (by decide) h) (by decide) (rep_D X hX) (rep_D Y hY)
theorem f3_of {X Y : Nat} {a b : Int} (h : ordF X Y = some (compare a b)) : f3 X Y = cmp3 a b := by
  unfold f3 cmp3
  rw [h, cmp_if]
  by_cases h1 : a < b
  · simp [h1]
  · by_cases h2 : a = b
    · subst h2
      simp
    · have h3 : b < a := by omega
      simp [h1, h2, h3]
theorem eq_zero {s : Bool} {r : Nat} : compare (sg s r) (sg false 0) = .eq ↔ r = 0 := by
  rw [cmp_if]
  unfold sg
  cases s <;> simp only [Bool.false_eq_true, if_false, if_true] <;> by_cases h : r = 0
  · subst h; simp
  · rw [if_neg (by omega), if_neg (by omega)]; simp [h]
  · subst h; simp
  · rw [if_pos (by omega)]; simp [h]
/-- A number that stands for a float's place in the order. -/
def kyD (X : Nat) : Int := if X < 9223372036854775808 then (X : Int) + 9223372036854775808 else 18446744073709551615 - (X : Int)
def kyS (y : Nat) : Int := if y < 2147483648 then (y : Int) + 2147483648 else 4294967295 - (y : Int)
theorem ng_D {X : Nat} (h : X < 18446744073709551616) : (X < 9223372036854775808 ∧ ngD X = false ∧ rgD X = X) ∨ (9223372036854775808 ≤ X ∧ ngD X = true ∧ rgD X = X - 9223372036854775808) := by
  unfold ngD rgD
  by_cases h1 : X < 9223372036854775808
  · left
    exact ⟨h1, by rw [show X / 9223372036854775808 % 2 = 0 by omega]; rfl, by omega⟩
  · right
    exact ⟨by omega, by rw [show X / 9223372036854775808 % 2 = 1 by omega]; rfl, by omega⟩
theorem fcmp_D (X Y : Nat) (hX : X < 18446744073709551616) (hY : Y < 18446744073709551616) (nX : rgD X ≤ 9218868437227405312) (nY : rgD Y ≤ 9218868437227405312) : fcmp X Y = cmp3 (kyD X) (kyD Y) := by
  have zX : ordF X 0 = some .eq ↔ rgD X = 0 := by
    rw [ord_D X 0 nX (by decide)]
    rw [Option.some.injEq]
    exact eq_zero
  have zY : ordF Y 0 = some .eq ↔ rgD Y = 0 := by
    rw [ord_D Y 0 nY (by decide)]
    rw [Option.some.injEq]
    exact eq_zero
  have hf := f3_of (ord_D X Y nX nY)
  unfold fcmp
  rw [hf]
  by_cases hz : rgD X = 0 ∧ rgD Y = 0
  · rw [if_pos ⟨zX.2 hz.1, zY.2 hz.2⟩]
    have e1 : X = 0 ∨ X = 9223372036854775808 := by have := ng_D hX; omega
    have e2 : Y = 0 ∨ Y = 9223372036854775808 := by have := ng_D hY; omega
    rcases e1 with rfl | rfl <;> rcases e2 with rfl | rfl <;> decide +kernel
  · rw [if_neg (fun h => hz ⟨zX.1 h.1, zY.1 h.2⟩)]
    unfold cmp3 kyD sg
    rcases ng_D hX with ⟨h1, e1, e2⟩ | ⟨h1, e1, e2⟩ <;> rcases ng_D hY with ⟨h3, e3, e4⟩ | ⟨h3, e3, e4⟩ <;> rw [e2, e4] at hz <;> rw [e1, e2, e3, e4] <;> simp only [Bool.false_eq_true, if_false, if_true] <;> (try rw [if_pos h1]) <;> (try rw [if_pos h3]) <;> (try rw [if_neg (show ¬ X < 9223372036854775808 by omega)]) <;> (try rw [if_neg (show ¬ Y < 9223372036854775808 by omega)]) <;> repeat' split <;> omega
/-- The same of 32 bits, widened. -/
def ngS (y : Nat) : Bool := y / 2147483648 % 2 == 1
def rgS (y : Nat) : Nat := y % 2147483648
theorem sgl_parts : single.leastPlace = -149 ∧ single.binade = 8388608 ∧ single.signWeight = 2147483648 ∧ single.infRung = 2139095040 := by decide +kernel
theorem wide_is (y : Nat) : wideF y = double.write (single.read y) := rfl
theorem rep_S (K : Nat) (hK : K = 925) (y : Nat) (h : rgS y ≤ 2139095040) : Rep (fun r => magR 8388608 r * 2 ^ K) 2139095040 (double.read (wideF y)) (ngS y) (rgS y) := by
  obtain ⟨lp, bin, sw, inf⟩ := sgl_parts
  rw [wide_is]
  by_cases e : rgS y = 2139095040
  · have hr : single.read y = .infinity (ngS y) := by
      unfold Format.read
      rw [sw, bin, inf, lp]
      unfold rgS at e
      unfold ngS
      simp only [e]
      rfl
    rw [hr]
    exact .inf e (double_inf _).1
  · have hlt : rgS y < 2139095040 := by omega
    have hr : ∃ m a : Nat, single.read y = .number (ngS y) m (-149 + a) ∧ m * 2 ^ a = magR 8388608 (rgS y) := by
      unfold Format.read
      rw [sw, bin, inf, lp]
      unfold rgS at hlt ⊢
      unfold magR ngS
      by_cases h1 : y % 2147483648 < 8388608
      · simp only [if_pos h1]
        exact ⟨_, 0, rfl, by simp⟩
      · simp only [if_neg h1, if_pos hlt]
        exact ⟨_, _, rfl, rfl⟩
    obtain ⟨m, a, hr, hm⟩ := hr
    obtain ⟨hm1, he1, he2⟩ := single_number hr
    refine .fin hlt ?_
    rw [hr]
    by_cases h0 : m = 0
    · subst h0
      rw [(double_zero _ _).1]
      refine ⟨_, _, _, rfl, by omega, ?_⟩
      rw [← hm]
      simp
    · rw [(double_number (ngS y) m (-149 + a) (by omega) hm1 ⟨he1, he2⟩).1]
      have hl : m.log2 < 24 := by
        rw [Nat.log2_lt h0]
        exact hm1
      refine ⟨_, _, _, rfl, by omega, ?_⟩
      congr 1
      rw [← hm, Nat.mul_assoc, Nat.mul_assoc, ← Nat.pow_add, ← Nat.pow_add]
      congr 2
      omega
theorem ord_S (x y : Nat) (hx : rgS x ≤ 2139095040) (hy : rgS y ≤ 2139095040) : ordF (wideF x) (wideF y) = some (compare (sg (ngS x) (rgS x)) (sg (ngS y) (rgS y))) :=
  (fun (K : Nat) (hK : K = 925) => rep_order (M := fun r => magR 8388608 r * 2 ^ K) (by simp [magR_0]) (fun a b h => Nat.mul_lt_mul_of_pos_right (magR_lt (by decide) h) (Nat.two_pow_pos _)) (by decide) (rep_S K hK x hx) (rep_S K hK y hy)) _ rfl
theorem ng_S {y : Nat} (h : y < 4294967296) : (y < 2147483648 ∧ ngS y = false ∧ rgS y = y) ∨ (2147483648 ≤ y ∧ ngS y = true ∧ rgS y = y - 2147483648) := by
  unfold ngS rgS
  by_cases h1 : y < 2147483648
  · left
    exact ⟨h1, by rw [show y / 2147483648 % 2 = 0 by omega]; rfl, by omega⟩
  · right
    exact ⟨by omega, by rw [show y / 2147483648 % 2 = 1 by omega]; rfl, by omega⟩
theorem wide_0 : wideF 0 = 0 ∧ wideF 2147483648 = 9223372036854775808 := by decide +kernel
theorem fcmp_S (x y : Nat) (hx : x < 4294967296) (hy : y < 4294967296) (nx : rgS x ≤ 2139095040) (ny : rgS y ≤ 2139095040) : fcmp (wideF x) (wideF y) = cmp3 (kyS x) (kyS y) := by
  have zx : ordF (wideF x) 0 = some .eq ↔ rgS x = 0 := by
    have h := ord_S x 0 nx (by decide)
    rw [wide_0.1] at h
    rw [h]
    rw [Option.some.injEq]
    exact eq_zero
  have zy : ordF (wideF y) 0 = some .eq ↔ rgS y = 0 := by
    have h := ord_S y 0 ny (by decide)
    rw [wide_0.1] at h
    rw [h]
    rw [Option.some.injEq]
    exact eq_zero
  have hf := f3_of (ord_S x y nx ny)
  unfold fcmp
  rw [hf]
  by_cases hz : rgS x = 0 ∧ rgS y = 0
  · rw [if_pos ⟨zx.2 hz.1, zy.2 hz.2⟩]
    have e1 : x = 0 ∨ x = 2147483648 := by have := ng_S hx; omega
    have e2 : y = 0 ∨ y = 2147483648 := by have := ng_S hy; omega
    rcases e1 with rfl | rfl <;> rcases e2 with rfl | rfl <;> simp only [wide_0.1, wide_0.2] <;> decide +kernel
  · rw [if_neg (fun h => hz ⟨zx.1 h.1, zy.1 h.2⟩)]
    unfold cmp3 kyS sg
    rcases ng_S hx with ⟨h1, e1, e2⟩ | ⟨h1, e1, e2⟩ <;> rcases ng_S hy with ⟨h3, e3, e4⟩ | ⟨h3, e3, e4⟩ <;> rw [e2, e4] at hz <;> rw [e1, e2, e3, e4] <;> simp only [Bool.false_eq_true, if_false, if_true] <;> (try rw [if_pos h1]) <;> (try rw [if_pos h3]) <;> (try rw [if_neg (show ¬ x < 2147483648 by omega)]) <;> (try rw [if_neg (show ¬ y < 2147483648 by omega)]) <;> repeat' split <;> omega
/-- Which bits are a NaN. -/
theorem nan_D {X : Nat} : ordF X X ≠ some .eq ↔ 9218868437227405312 < rgD X := by
  constructor
  · intro h
    by_cases h1 : rgD X ≤ 9218868437227405312
    · refine absurd ?_ h
      rw [ord_D X X h1 h1, cmp_if]
      simp
    · omega
  · intro h
    rw [(nan_order h X).1]
    simp
theorem nan_S {y : Nat} : (FloatKind.f32.decode y).isNaN = true ↔ 2139095040 < rgS y := by
  obtain ⟨lp, bin, sw, inf⟩ := sgl_parts
  show (single.read y).isNaN = true ↔ _
  unfold Format.read
  rw [sw, bin, inf, lp]
  unfold rgS
  generalize y % 2147483648 = r
  simp only
  by_cases h1 : r < 8388608
  · rw [if_pos h1]
    simp [Datum.isNaN]
    omega
  · rw [if_neg h1]
    by_cases h2 : r < 2139095040
    · rw [if_pos h2]
      simp [Datum.isNaN]
      omega
    · rw [if_neg h2]
      by_cases h3 : r = 2139095040
      · rw [if_pos h3]
        simp [Datum.isNaN]
        omega
      · rw [if_neg h3]
        simp [Datum.isNaN]
        omega
end Go.Proofs.YtcgcghldgomelaaGreatDoor.Mp
