/- Floats of 4 bytes, widened. -/
import Derived.Laws.FloatArith
namespace Go.Proofs.YtcgcghldgomelaaGreatDoor.Mp
open Ieee

theorem shl_mul (m k : Nat) : m <<< k = m * 2 ^ k := Nat.shiftLeft_eq m k
theorem cut_zero (s : Bool) (n : Nat) : Toward.even.cut s n 0 = n := by
  unfold Toward.cut
  have e1 : (1 : Nat) <<< min 0 (n.log2 + 2) = 1 := by simp
  simp only [e1, Nat.div_one, Nat.mod_one]
  simp
theorem word_read (s : Bool) (r : Nat) (h : r < 9223372036854775808) : double.word s r / 9223372036854775808 % 2 = (if s = true then 1 else 0) ∧ double.word s r % 9223372036854775808 = r ∧ double.word s r < 18446744073709551616 := by
  have sw : double.signWeight = 9223372036854775808 := by decide +kernel
  unfold Format.word
  rw [sw]
  cases s <;> simp <;> omega
theorem read_word (s : Bool) (r : Nat) (h1 : 4503599627370496 ≤ r) (h2 : r < 9218868437227405312) : double.read (double.word s r) = .number s (4503599627370496 + r % 4503599627370496) (-1074 + (r / 4503599627370496 - 1 : Nat)) := by
  have lp : double.leastPlace = -1074 := by decide +kernel
  have bin : double.binade = 4503599627370496 := by decide +kernel
  have inf : double.infRung = 9218868437227405312 := by decide +kernel
  have sw : double.signWeight = 9223372036854775808 := by decide +kernel
  obtain ⟨e1, e2, _⟩ := word_read s r (by omega)
  unfold Format.read
  rw [sw, e1, e2, bin, inf, lp, if_neg (by omega), if_pos h2]
  cases s <;> rfl
/-- A number of few digits, in 64 bits, is itself. -/
theorem double_number (s : Bool) (m : Nat) (e : Int) (h0 : 0 < m) (hm : m < 16777216) (he : -149 ≤ e ∧ e ≤ 104) :
    double.read (double.write (.number s m e)) = .number s (m * 2 ^ (52 - m.log2)) (e + m.log2 - 52) ∧ double.write (.number s m e) < 18446744073709551616 := by
  have hl : m.log2 < 24 := by
    rw [Nat.log2_lt (by omega)]
    exact hm
  have hlo : 2 ^ m.log2 ≤ m := Nat.log2_self_le (by omega)
  have hhi : m < 2 ^ (m.log2 + 1) := Nat.lt_log2_self
  have lp : double.leastPlace = -1074 := by decide +kernel
  have fb : double.fractionBits = 52 := by decide +kernel
  have bin : double.binade = 4503599627370496 := by decide +kernel
  have inf : double.infRung = 9218868437227405312 := by decide +kernel
  have hw0 : double.write (.number s m e) = double.word s (min (((max (e + (m.log2 : Int) - (52 : Nat)) (-1074)) - -1074).toNat * 4503599627370496 + Toward.even.cut s (m <<< (e - max (e + (m.log2 : Int) - (52 : Nat)) (-1074)).toNat) (max (e + (m.log2 : Int) - (52 : Nat)) (-1074) - e).toNat) 9218868437227405312) := by
    unfold Format.write Format.nearest
    simp only
    rw [if_neg (by omega), fb, lp, bin, inf]
  obtain ⟨l, hle⟩ : ∃ l, m.log2 = l := ⟨_, rfl⟩
  rw [hle] at hl hlo hhi hw0 ⊢
  have hlast : max (e + (l : Int) - (52 : Nat)) (-1074) = e + l - 52 := by omega
  have hp : (2 : Nat) ^ l * 2 ^ (52 - l) = 4503599627370496 := by rw [← Nat.pow_add, show l + (52 - l) = 52 by omega]
  have hk1 : 4503599627370496 ≤ m * 2 ^ (52 - l) := by rw [← hp]; exact Nat.mul_le_mul_right _ hlo
  have hk2 : m * 2 ^ (52 - l) < 9007199254740992 := by
    have h3 : m * 2 ^ (52 - l) < 2 ^ (l + 1) * 2 ^ (52 - l) := (Nat.mul_lt_mul_right (Nat.two_pow_pos _)).2 hhi
    rw [Nat.pow_succ, Nat.mul_assoc, Nat.mul_comm 2, ← Nat.mul_assoc, hp] at h3
    exact h3
  obtain ⟨E, hE⟩ : ∃ E : Nat, e + l + 1022 = E := ⟨(e + l + 1022).toNat, by omega⟩
  rw [hlast, show (e - (e + (l : Int) - 52)).toNat = 52 - l by omega, show (e + (l : Int) - 52 - e).toNat = 0 by omega, shl_mul, cut_zero, show (e + (l : Int) - 52 - -1074).toNat = E by omega] at hw0
  obtain ⟨q, hq⟩ : ∃ q, m * 2 ^ (52 - l) = q := ⟨_, rfl⟩
  rw [hq] at hw0 hk1 hk2 ⊢
  have hE1 : E * 4503599627370496 ≤ 5174635971848699904 := Nat.mul_le_mul_right 4503599627370496 (show E ≤ 1149 by omega)
  have hm1 : (E * 4503599627370496 + q) % 4503599627370496 = q - 4503599627370496 := by
    rw [Nat.add_comm, Nat.add_mul_mod_self_right]
    clear hE1 hw0 hp hlo hhi hq hE
    omega
  have hd1 : (E * 4503599627370496 + q) / 4503599627370496 = E + 1 := by
    rw [Nat.add_comm, Nat.add_mul_div_right _ _ (by decide +kernel)]
    clear hE1 hw0 hp hlo hhi hq hE
    omega
  rw [show (e + (l : Int) - 52) = -1074 + (E : Int) by omega]
  clear hlo hhi hp hq hE hle
  generalize hZ : E * 4503599627370496 + q = Z at *
  have hZ1 : 4503599627370496 ≤ Z ∧ Z < 9218868437227405312 := by
    generalize E * 4503599627370496 = Y at *
    omega
  clear hZ hE1
  rw [Nat.min_eq_left (by omega)] at hw0
  rw [hw0]
  refine ⟨?_, (word_read s _ (by omega)).2.2⟩
  rw [read_word s _ hZ1.1 hZ1.2, hm1, hd1, show 4503599627370496 + (q - 4503599627370496) = q by omega, Nat.add_sub_cancel]
theorem single_number {y : Nat} {s : Bool} {m : Nat} {e : Int} (h : single.read y = .number s m e) : m < 16777216 ∧ -149 ≤ e ∧ e ≤ 104 := by
  have lp : single.leastPlace = -149 := by decide +kernel
  have bin : single.binade = 8388608 := by decide +kernel
  have inf : single.infRung = 2139095040 := by decide +kernel
  unfold Format.read at h
  simp only [lp, bin, inf] at h
  generalize y % single.signWeight = r at h
  split at h
  · cases h
    omega
  · split at h
    · cases h
      omega
    · split at h <;> cases h
theorem double_zero (s : Bool) (e : Int) : double.read (double.write (.number s 0 e)) = .number s 0 (-1074) ∧ double.write (.number s 0 e) < 18446744073709551616 := by
  have h : double.write (.number s 0 e) = double.word s 0 := by
    unfold Format.write Format.nearest
    simp only
    rw [if_pos trivial]
  rw [h]
  cases s <;> decide +kernel
theorem double_inf (s : Bool) : double.read (double.write (.infinity s)) = .infinity s ∧ double.write (.infinity s) < 18446744073709551616 := by
  cases s <;> decide +kernel
end Go.Proofs.YtcgcghldgomelaaGreatDoor.Mp
