/- The document's functions of layer 1, walked: key. -/
import Derived.Test.YtcgcghldgomelaaGreatDoorRn
import Derived.Laws.Bits64
import Derived.Test.YtcgcghldgomelaaGreatDoorTc5
namespace Go.Proofs.YtcgcghldgomelaaGreatDoor.Mp
open Go.RowKit Go.Shelf Go.Proofs.YtcgcghldgomelaaGreatDoor.Rng Go.Proofs.YtcgcghldgomelaaGreatDoorW.PrintWords Go.Proofs.YtcgcghldgomelaaGreatDoorW.PrintMore Go.Proofs.YtcgcghldgomelaaGreatDoorW.PrintLast

theorem xor_low (m x : Nat) (h : x < 2 ^ m) : x ^^^ 2 ^ m = x + 2 ^ m := by
  rw [Nat.add_comm, show 2 ^ m + x = 2 ^ m * 1 + x by omega, Nat.two_pow_add_eq_or_of_lt h, Nat.mul_one]
  apply Nat.eq_of_testBit_eq
  intro i
  rw [Nat.testBit_xor, Nat.testBit_or, Nat.testBit_two_pow]
  by_cases hi : m = i
  · subst hi
    simp [Nat.testBit_lt_two_pow h]
  · simp [hi]
theorem xor_top (m x : Nat) (h : x < 2 ^ (m + 1)) : x ^^^ 2 ^ m = if x < 2 ^ m then x + 2 ^ m else x - 2 ^ m := by
  by_cases h1 : x < 2 ^ m
  · rw [if_pos h1, xor_low m x h1]
  · rw [if_neg h1]
    have h2 : x - 2 ^ m < 2 ^ m := by rw [Nat.pow_succ] at h; omega
    have h3 := xor_low m (x - 2 ^ m) h2
    rw [show x - 2 ^ m + 2 ^ m = x by omega] at h3
    have h4 : ((x - 2 ^ m) ^^^ 2 ^ m) ^^^ 2 ^ m = x - 2 ^ m := by rw [Nat.xor_assoc, Nat.xor_self, Nat.xor_zero]
    rw [h3] at h4
    exact h4
theorem xor_i (m : Nat) (hm : m ≤ 63) (N : Int) (h : 0 ≤ N ∧ N < 2 ^ (m + 1)) : bits .xor .u64 N ((2 ^ m : Nat) : Int) = if 2 * N < 2 ^ (m + 1) then N + 2 ^ m else N - 2 ^ m := by
  obtain ⟨x, rfl⟩ := Int.eq_ofNat_of_zero_le h.1
  have hx : x < 2 ^ (m + 1) := by exact_mod_cast h.2
  have hp : (2 : Nat) ^ m ≤ 2 ^ 63 := Nat.pow_le_pow_right (by omega) hm
  have hp1 : (2 : Nat) ^ (m + 1) = 2 * 2 ^ m := by rw [Nat.pow_succ, Nat.mul_comm]
  have hpi : (2 : Int) ^ (m + 1) = 2 * 2 ^ m := by rw [Int.pow_succ, Int.mul_comm]
  have e : (2 : Int) ^ m = ((2 ^ m : Nat) : Int) := by push_cast; rfl
  rw [bits_xor_u64_nat _ _ (by omega) (by omega), xor_top m x hx, hpi, e]
  generalize (2 : Nat) ^ m = P at *
  by_cases h1 : x < P
  · rw [if_pos h1, if_pos (by omega)]
    push_cast
    rfl
  · rw [if_neg h1, if_neg (by omega)]
    omega
theorem or_32 {a b : Int} (ha : 0 ≤ a ∧ a < 4294967296) (hb : 0 ≤ b ∧ b < 4294967296) : bits .or .u64 (IntKind.u64.wrap (a * 4294967296)) b = a * 4294967296 + b := by
  obtain ⟨x, rfl⟩ := Int.eq_ofNat_of_zero_le ha.1
  obtain ⟨y, rfl⟩ := Int.eq_ofNat_of_zero_le hb.1
  have hw : IntKind.u64.wrap ((x : Int) * 4294967296) = ((2 ^ 32 * x : Nat) : Int) := by
    rw [IntKind.wrap_u64]
    omega
  have hy : y < 2 ^ 32 := by omega
  rw [hw, bits_or_u64_nat _ _ (by omega) (by omega), ← Nat.two_pow_add_eq_or_of_lt hy]
  omega
def KeySaid (w : World) (r : Int) (e : Ending) (w' : World) : Prop := e = .returned (.int .u64 r) ∧ Below w.heap.size w w'
set_option maxRecDepth 100000 in
set_option maxHeartbeats 4000000 in
theorem rkey_any (t : Int) (A : Option Addr) (c : Nat) (b : List Int) (w : World) (h : Arg w A c b) (hp : plainC t b = 0) (h6 : knd t ≠ 6) :
    Calls Tryz.prog 40 #[.int .u8 t, .slice A b.length c] w (KeySaid w (keyR t b)) := by
  have hl8 := plain_8 hp h6
  have HNM := Aside0.mk (rnumber_any A c b w h hl8)
  have HK := Aside0.mk (rkind_any t w)
  have HA := Aside0.mk h
  have hlen := (plainC_0 hp).2.2.1 h6
  have hn := num_64 h.byt hl8
  have hlt := num_lt h.byt
  have hs := siz_of t
  have hcap := h.cap
  have hle := h.le
  obtain ⟨n, hnn⟩ : ∃ n, b.length = n := ⟨_, rfl⟩
  have HN := Aside0.mk hnn
  by_cases h2 : knd t = 2
  · have hkr : keyR t b = (if 2 * num b < 256 ^ n then num b else num b - 256 ^ n) + 256 ^ n / 2 := by
      unfold keyR wholeC
      rw [if_pos h2, hnn]
    rw [hkr]
    rw [h2] at HK
    have hc := hs.2.1 h2
    rw [hnn] at HNM hlen hlt ⊢
    generalize num b = N at *
    clear h hp hs hkr
    have hcs : n = 1 ∨ n = 2 ∨ n = 3 ∨ n = 4 ∨ n = 8 := by omega
    rcases hcs with rfl | rfl | rfl | rfl | rfl
    · have hx := xor_i 7 (by omega) N ⟨hn.1, by simpa using hlt⟩
      have hx' : bits .xor .u64 N 128 = (if 2 * N < 256 ^ 1 then N else N - 256 ^ 1) + 256 ^ 1 / 2 := by
        rw [show ((2 ^ 7 : Nat) : Int) = 128 from rfl, show (2 : Int) ^ (7 + 1) = 256 from rfl, show (2 : Int) ^ 7 = 128 from rfl] at hx
        rw [hx, show (256 : Int) ^ 1 = 256 from rfl]
        by_cases k : 2 * N < 256
        · rw [if_pos k, if_pos k]
          omega
        · rw [if_neg k, if_neg k]
          omega
      rw [← hx']
      clear hx hx' hlt hlen hc
      go_enter Tryz.func40, Tryz.ntmps40
      go_wp2_with (first
        | (go_at_call 58; refine HNM.out.mono ?_; rintro e w1 ⟨rfl, hw⟩; have hw := hw.symm; subst hw)
        | (go_at_call 25; refine HK.out.mono ?_; rintro e w1 ⟨rfl, hw⟩; have hw := hw.symm; subst hw))
      go_ret
      exact ⟨rfl, Below.refl _ _⟩
    · have hx := xor_i 15 (by omega) N ⟨hn.1, by simpa using hlt⟩
      have hx' : bits .xor .u64 N 32768 = (if 2 * N < 256 ^ 2 then N else N - 256 ^ 2) + 256 ^ 2 / 2 := by
        rw [show ((2 ^ 15 : Nat) : Int) = 32768 from rfl, show (2 : Int) ^ (15 + 1) = 65536 from rfl, show (2 : Int) ^ 15 = 32768 from rfl] at hx
        rw [hx, show (256 : Int) ^ 2 = 65536 from rfl]
        by_cases k : 2 * N < 65536
        · rw [if_pos k, if_pos k]
          omega
        · rw [if_neg k, if_neg k]
          omega
      rw [← hx']
      clear hx hx' hlt hlen hc
      go_enter Tryz.func40, Tryz.ntmps40
      go_wp2_with (first
        | (go_at_call 58; refine HNM.out.mono ?_; rintro e w1 ⟨rfl, hw⟩; have hw := hw.symm; subst hw)
        | (go_at_call 25; refine HK.out.mono ?_; rintro e w1 ⟨rfl, hw⟩; have hw := hw.symm; subst hw))
      go_ret
      exact ⟨rfl, Below.refl _ _⟩
    · have hx := xor_i 23 (by omega) N ⟨hn.1, by simpa using hlt⟩
      have hx' : bits .xor .u64 N 8388608 = (if 2 * N < 256 ^ 3 then N else N - 256 ^ 3) + 256 ^ 3 / 2 := by
        rw [show ((2 ^ 23 : Nat) : Int) = 8388608 from rfl, show (2 : Int) ^ (23 + 1) = 16777216 from rfl, show (2 : Int) ^ 23 = 8388608 from rfl] at hx
        rw [hx, show (256 : Int) ^ 3 = 16777216 from rfl]
        by_cases k : 2 * N < 16777216
        · rw [if_pos k, if_pos k]
          omega
        · rw [if_neg k, if_neg k]
          omega
      rw [← hx']
      clear hx hx' hlt hlen hc
      go_enter Tryz.func40, Tryz.ntmps40
      go_wp2_with (first
        | (go_at_call 58; refine HNM.out.mono ?_; rintro e w1 ⟨rfl, hw⟩; have hw := hw.symm; subst hw)
        | (go_at_call 25; refine HK.out.mono ?_; rintro e w1 ⟨rfl, hw⟩; have hw := hw.symm; subst hw))
      go_ret
      exact ⟨rfl, Below.refl _ _⟩
    · have hx := xor_i 31 (by omega) N ⟨hn.1, by simpa using hlt⟩
      have hx' : bits .xor .u64 N 2147483648 = (if 2 * N < 256 ^ 4 then N else N - 256 ^ 4) + 256 ^ 4 / 2 := by
        rw [show ((2 ^ 31 : Nat) : Int) = 2147483648 from rfl, show (2 : Int) ^ (31 + 1) = 4294967296 from rfl, show (2 : Int) ^ 31 = 2147483648 from rfl] at hx
        rw [hx, show (256 : Int) ^ 4 = 4294967296 from rfl]
        by_cases k : 2 * N < 4294967296
        · rw [if_pos k, if_pos k]
          omega
        · rw [if_neg k, if_neg k]
          omega
      rw [← hx']
      clear hx hx' hlt hlen hc
      go_enter Tryz.func40, Tryz.ntmps40
      go_wp2_with (first
        | (go_at_call 58; refine HNM.out.mono ?_; rintro e w1 ⟨rfl, hw⟩; have hw := hw.symm; subst hw)
        | (go_at_call 25; refine HK.out.mono ?_; rintro e w1 ⟨rfl, hw⟩; have hw := hw.symm; subst hw))
      go_ret
      exact ⟨rfl, Below.refl _ _⟩
    · have hx := xor_i 63 (by omega) N ⟨hn.1, by simpa using hlt⟩
      have hx' : bits .xor .u64 N 9223372036854775808 = (if 2 * N < 256 ^ 8 then N else N - 256 ^ 8) + 256 ^ 8 / 2 := by
        rw [show ((2 ^ 63 : Nat) : Int) = 9223372036854775808 from rfl, show (2 : Int) ^ (63 + 1) = 18446744073709551616 from rfl, show (2 : Int) ^ 63 = 9223372036854775808 from rfl] at hx
        rw [hx, show (256 : Int) ^ 8 = 18446744073709551616 from rfl]
        by_cases k : 2 * N < 18446744073709551616
        · rw [if_pos k, if_pos k]
          omega
        · rw [if_neg k, if_neg k]
          omega
      rw [← hx']
      clear hx hx' hlt hlen hc
      go_enter Tryz.func40, Tryz.ntmps40
      go_wp2_with (first
        | (go_at_call 58; refine HNM.out.mono ?_; rintro e w1 ⟨rfl, hw⟩; have hw := hw.symm; subst hw)
        | (go_at_call 25; refine HK.out.mono ?_; rintro e w1 ⟨rfl, hw⟩; have hw := hw.symm; subst hw))
      go_ret
      exact ⟨rfl, Below.refl _ _⟩
  by_cases h4 : knd t = 4
  · have hkr := key_4 (t := t) h4 (b := b)
    rw [hkr]
    rw [h4] at HK
    have hc := hs.2.2.2.1 h4
    rw [hnn] at HNM hlen hlt ⊢
    generalize num b = N at *
    clear h hp hs hkr
    have hcs : n = 4 ∨ n = 8 := by omega
    rcases hcs with rfl | rfl
    · have hN : N < 4294967296 := by simpa using hlt
      rw [if_pos rfl]
      have hd : (IntKind.u64.wrap (N / 2147483648)) = N / 2147483648 := by rw [IntKind.wrap_u64]; omega
      by_cases hg : 2147483648 ≤ N
      · have hq : (N / 2147483648 == 1) = true := beq_iff_eq.2 (by omega)
        have hk : kyS N.toNat = 4294967295 - N := by unfold kyS; rw [if_neg (by omega)]; omega
        rw [hk]
        have w1 : IntKind.u64.wrap (N - 2147483648) = N - 2147483648 := by rw [IntKind.wrap_u64]; omega
        have w2 : IntKind.u64.wrap (2147483647 - (N - 2147483648)) = 4294967295 - N := by rw [IntKind.wrap_u64]; omega
        have h31 : IntKind.i64.wrap 31 = 31 := by decide
        have hu1 : IntKind.u64.wrap 2147483648 = 2147483648 := by decide
        have hu2 : IntKind.u64.wrap 2147483647 = 2147483647 := by decide
        have hS0 : Below w.heap.size w w := Below.refl _ _
        clear hk hlt hlen hc
        go_enter Tryz.func40, Tryz.ntmps40
        go_wp2_with (first
          | (go_at_call 58; refine HNM.out.mono ?_; rintro e w1 ⟨rfl, hw⟩; have hw := hw.symm; subst hw)
          | (go_at_call 25; refine HK.out.mono ?_; rintro e w1 ⟨rfl, hw⟩; have hw := hw.symm; subst hw))
        go_region_held3 (fun X => Below w.heap.size w X) (first | assumption | exact below_step (by assumption) (by assumption) | exact below_drew (by assumption))
          (fail)
        go_wp2
        go_ret
        exact ⟨rfl, (Below.refl _ _).drew⟩
      · have hq : (N / 2147483648 == 1) = false := by rw [show N / 2147483648 = 0 from by omega]; rfl
        have hk : kyS N.toNat = N + 2147483648 := by unfold kyS; rw [if_pos (by omega)]; omega
        rw [hk]
        have w1 : IntKind.u64.wrap (N + 2147483648) = N + 2147483648 := by rw [IntKind.wrap_u64]; omega
        clear hk hlt hlen hc
        go_enter Tryz.func40, Tryz.ntmps40
        go_wp2_with (first
          | (go_at_call 58; refine HNM.out.mono ?_; rintro e w1 ⟨rfl, hw⟩; have hw := hw.symm; subst hw)
          | (go_at_call 25; refine HK.out.mono ?_; rintro e w1 ⟨rfl, hw⟩; have hw := hw.symm; subst hw))
        go_ret
        exact ⟨rfl, Below.refl _ _⟩
    · have hN : N < 18446744073709551616 := by simpa using hlt
      rw [if_neg (by decide)]
      have hd : (IntKind.u64.wrap (N / 9223372036854775808)) = N / 9223372036854775808 := by rw [IntKind.wrap_u64]; omega
      by_cases hg : 9223372036854775808 ≤ N
      · have hq : (N / 9223372036854775808 == 1) = true := beq_iff_eq.2 (by omega)
        have hk : kyD N.toNat = 18446744073709551615 - N := by unfold kyD; rw [if_neg (by omega)]; omega
        rw [hk]
        have w1 : IntKind.u64.wrap (N - 9223372036854775808) = N - 9223372036854775808 := by rw [IntKind.wrap_u64]; omega
        have w2 : IntKind.u64.wrap (9223372036854775807 - (N - 9223372036854775808)) = 18446744073709551615 - N := by rw [IntKind.wrap_u64]; omega
        have h31 : IntKind.i64.wrap 63 = 63 := by decide
        have hu1 : IntKind.u64.wrap 9223372036854775808 = 9223372036854775808 := by decide
        have hu2 : IntKind.u64.wrap 9223372036854775807 = 9223372036854775807 := by decide
        have hS0 : Below w.heap.size w w := Below.refl _ _
        clear hk hlt hlen hc
        go_enter Tryz.func40, Tryz.ntmps40
        go_wp2_with (first
          | (go_at_call 58; refine HNM.out.mono ?_; rintro e w1 ⟨rfl, hw⟩; have hw := hw.symm; subst hw)
          | (go_at_call 25; refine HK.out.mono ?_; rintro e w1 ⟨rfl, hw⟩; have hw := hw.symm; subst hw))
        go_region_held3 (fun X => Below w.heap.size w X) (first | assumption | exact below_step (by assumption) (by assumption) | exact below_drew (by assumption))
          (fail)
        go_wp2
        go_ret
        exact ⟨rfl, (Below.refl _ _).drew⟩
      · have hq : (N / 9223372036854775808 == 1) = false := by rw [show N / 9223372036854775808 = 0 from by omega]; rfl
        have hk : kyD N.toNat = N + 9223372036854775808 := by unfold kyD; rw [if_pos (by omega)]; omega
        rw [hk]
        have w1 : IntKind.u64.wrap (N + 9223372036854775808) = N + 9223372036854775808 := by rw [IntKind.wrap_u64]; omega
        clear hk hlt hlen hc
        go_enter Tryz.func40, Tryz.ntmps40
        go_wp2_with (first
          | (go_at_call 58; refine HNM.out.mono ?_; rintro e w1 ⟨rfl, hw⟩; have hw := hw.symm; subst hw)
          | (go_at_call 25; refine HK.out.mono ?_; rintro e w1 ⟨rfl, hw⟩; have hw := hw.symm; subst hw))
        go_ret
        exact ⟨rfl, Below.refl _ _⟩
  by_cases h5 : knd t = 5
  · have hc := hs.2.2.2.2.1 h5
    have hn6 : b.length = 6 := by omega
    have hkr : keyR t b = num (b.drop 4) * 4294967296 + num (b.take 4) := by
      unfold keyR
      rw [if_neg h2, if_neg h4, if_pos h5]
    rw [hkr]
    rw [h5] at HK
    have hd2 : (b.drop 4).length = 2 := by rw [List.length_drop]; omega
    have ht4 : (b.take 4).length = 4 := by rw [List.length_take]; omega
    obtain ⟨ad, rfl, -⟩ := h.rd.2 (by omega)
    have HD := Aside0.mk fun W (hW : Below w.heap.size w W) => (rnumber_any (some (ad.add 4)) (c - 4) (b.drop 4) W ⟨(h.rd.drop 4).below hW, byt_drop h.byt 4, by rw [List.length_drop]; omega, by omega⟩ (by omega)).mono (R' := fun e w' => e = .returned (.int .u64 (num (b.drop 4))) ∧ Below W.heap.size W w') (fun e w' he => ⟨he.1, by rw [he.2]; exact Below.refl _ _⟩)
    have HT := Aside0.mk fun W (hW : Below w.heap.size w W) => (rnumber_any (some ad) c (b.take 4) W ((h.below hW).take 4 (by omega)) (by omega)).mono (R' := fun e w' => e = .returned (.int .u64 (num (b.take 4))) ∧ Below W.heap.size W w') (fun e w' he => ⟨he.1, by rw [he.2]; exact Below.refl _ _⟩)
    rw [hd2] at HD
    rw [ht4] at HT
    have hbd : 0 ≤ num (b.drop 4) ∧ num (b.drop 4) < 4294967296 := by
      have h1 := num_lt (byt_drop h.byt 4)
      rw [hd2] at h1
      have h3 : (256 : Int) ^ 2 = 65536 := by decide
      exact ⟨num_nonneg (byt_drop h.byt 4), by omega⟩
    have hbt := num_4 (byt_take h.byt 4) ht4
    have hor := or_32 hbd hbt
    have e4 : ad.add 4 = ⟨ad.block, ad.off + 4, none⟩ := by unfold Addr.add; rw [if_neg (by omega)]
    rw [e4] at HD
    rw [hnn] at hn6
    subst hn6
    rw [hnn] at HNM ⊢
    generalize num b = N at *
    generalize num (b.drop 4) = N1 at *
    generalize num (b.take 4) = N2 at *
    have hc1 : (4 : Int) ≤ (c : Int) := by omega
    have hc2 : ¬ c = 4 := by omega
    have hS0 : Below w.heap.size w w := Below.refl _ _
    clear h hp hs hkr hlt hlen
    go_enter Tryz.func40, Tryz.ntmps40
    go_wp2_with (first
      | (go_at_call 58; refine HNM.out.mono ?_; rintro e w1 ⟨rfl, hw⟩; have hw := hw.symm; subst hw)
      | (go_at_call 25; refine HK.out.mono ?_; rintro e w1 ⟨rfl, hw⟩; have hw := hw.symm; subst hw))
    go_region_held3 (fun X => Below w.heap.size w X) (first | assumption | exact below_step (by assumption) (by assumption) | exact below_drew (by assumption))
      (first
        | (go_at_call 58; (with_reducible refine (HD.out _ (by assumption)).mono ?_); rintro e w3 ⟨rfl, hb3⟩)
        | (go_at_call 58; (with_reducible refine (HT.out _ (by assumption)).mono ?_); rintro e w4 ⟨rfl, hb4⟩))
    all_goals
      go_wp2
      go_ret
      exact ⟨rfl, by assumption⟩
  have hkr : keyR t b = num b := by
    unfold keyR
    rw [if_neg h2, if_neg h4, if_neg h5]
  rw [hkr]
  obtain ⟨-, e5, -, e2, e4, -⟩ := letR_eq (knd t) (knd_cases t)
  have g2 : (letR (knd t) == 105) = false := by simpa using fun k => h2 (e2.1 k)
  have g4 : (letR (knd t) == 102) = false := by simpa using fun k => h4 (e4.1 k)
  have g5 : (letR (knd t) == 116) = false := by simpa using fun k => h5 (e5.1 k)
  rw [hnn] at HNM ⊢
  generalize letR (knd t) = L at *
  generalize num b = N at *
  clear h hp hs hkr hlt hlen e5 e2 e4
  go_enter Tryz.func40, Tryz.ntmps40
  go_wp2_with (first
    | (go_at_call 58; refine HNM.out.mono ?_; rintro e w1 ⟨rfl, hw⟩; have hw := hw.symm; subst hw)
    | (go_at_call 25; refine HK.out.mono ?_; rintro e w1 ⟨rfl, hw⟩; have hw := hw.symm; subst hw))
  go_ret
  exact ⟨rfl, Below.refl _ _⟩
end Go.Proofs.YtcgcghldgomelaaGreatDoor.Mp
