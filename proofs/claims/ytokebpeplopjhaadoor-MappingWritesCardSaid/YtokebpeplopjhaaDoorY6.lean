/- The document's functions of layer 1, walked: number, plain, nan, ordered. The document's functions of layer 1, walked: nan, ordered. The document's functions of layer 1, walked: key. The document's functions of layer 1, walked: Check. mapping: Of, Number, fits, gap. -/
import Derived.Test.YtokebpeplopjhaaDoorY5
import Derived.Deep.RegionHeld3
import Derived.Laws.Bits64b
import Derived.Laws.Bits64
namespace Go.Proofs.YtokebpeplopjhaaDoor.Mp
open Go.RowKit Go.Shelf Go.Proofs.YtokebpeplopjhaaDoor.Rng Go.Proofs.YtokebpeplopjhaaDoorW.PrintWords Go.Proofs.YtokebpeplopjhaaDoorW.PrintMore Go.Proofs.YtokebpeplopjhaaDoorW.PrintLast

theorem Arg.take {w : World} {A : Option Addr} {c : Nat} {b : List Int} (h : Arg w A c b) (n : Nat) (hn : n ≤ c) : Arg w A c (b.take n) :=
  ⟨⟨by have := h.rd.1; rw [List.length_take]; omega, fun h0 => by
    rw [List.length_take] at h0
    obtain ⟨ad, e, hc⟩ := h.rd.2 (by omega)
    refine ⟨ad, e, fun j hj => ?_⟩
    rw [List.length_take] at hj
    rw [List.getElem?_take, if_pos (by omega)]
    exact hc j (by omega)⟩, fun x hx => h.byt x (List.mem_of_mem_take hx), by rw [List.length_take]; have := h.le; omega, h.cap⟩
theorem num_step (zs : List Int) (hb : Byt zs) (hl : zs.length ≤ 8) (i : Nat) (hi : i < zs.length) : bits .or .u64 (IntKind.u64.wrap (num (zs.drop (i + 1)) * 256)) (IntKind.u64.wrap (zs[i]?.getD 0)) = num (zs.drop i) := by
  have hs := Num.stepU_num zs hb hl (zs.length - (i + 1)) (by omega)
  rw [show zs.length - (zs.length - (i + 1)) = i + 1 by omega, show zs.length - 1 - (zs.length - (i + 1)) = i by omega, show zs.length - (zs.length - (i + 1) + 1) = i by omega] at hs
  exact hs
set_option maxRecDepth 100000 in
set_option maxHeartbeats 1000000 in
theorem rnumber_any (A : Option Addr) (c : Nat) (zs : List Int) (w : World) (h : Arg w A c zs) (hl : zs.length ≤ 8) :
    Calls Tryd.prog 154 #[.slice A zs.length c] w fun e w' => e = .returned (.int .u64 (num zs)) ∧ w' = w := by
  have HA := Aside0.mk h
  obtain ⟨n, hn⟩ : ∃ n, zs.length = n := ⟨_, rfl⟩
  have HN := Aside0.mk hn
  obtain ⟨r, hr⟩ : ∃ r, num zs = r := ⟨_, rfl⟩
  have HR := Aside0.mk hr
  rw [hn] at hl ⊢
  rw [hr]
  clear h hn hr
  go_enter Tryd.func154, Tryd.ntmps154
  go_wp2
  go_loopw [3, 4] (fun nv iv wr => ∃ j : Nat, j ≤ n ∧ iv = .int .i64 ((j : Int) - 1) ∧ nv = .int .u64 (num (zs.drop j)) ∧ wr = w) (fun _ iv _ => (intOf iv + 1).toNat)
  case atStart => exact ⟨n, Nat.le_refl _, by congr 1, by rw [← HN.out, List.drop_length]; rfl, by trivial⟩
  case round =>
    obtain ⟨j, hj, rfl, rfl, rfl⟩ := hrel
    cases j with
    | zero =>
      have e0 : num (zs.drop 0) = r := HR.out
      rw [e0]
      have hd : ((0 : Nat) : Int) - 1 = -1 := by omega
      rw [hd]
      go_wp2
      go_ret
      exact ⟨rfl, rfl⟩
    | succ i =>
      have hd : ((i + 1 : Nat) : Int) - 1 = (i : Int) := by omega
      rw [hd]
      have hil : i < zs.length := by rw [HN.out]; omega
      obtain ⟨ad, rfl, hc⟩ := HA.out.rd.at_ i hil
      have hst := num_step zs HA.out.byt (by rw [HN.out]; exact hl) i hil
      generalize num (zs.drop (i + 1)) = N at hst ⊢
      generalize zs[i]?.getD 0 = X at hst hc
      have hin : i < n := by omega
      clear hd hil
      go_wp2
      go_roundw
      case rel => exact ⟨i, by omega, by congr 1, by rfl, by trivial⟩
      case measure => simp [intOf]
set_option maxRecDepth 100000 in
set_option maxHeartbeats 2000000 in
theorem rplain_any (t : Int) (A : Option Addr) (c : Nat) (b : List Int) (w : World) (h : Arg w A c b) :
    Calls Tryd.prog 142 #[.int .u8 t, .slice A b.length c] w fun e w' => e = .returned (.int .u32 (plainC t b)) ∧ w' = w := by
  have HA := Aside0.mk h
  have hcap := h.cap
  have hle := h.le
  obtain ⟨e1, e5, -, -, -, -⟩ := letR_eq (knd t) (knd_cases t)
  have hs := siz_of t
  have h8 := siz_cases t
  have hp := siz_pos (t := t)
  obtain ⟨n, hn⟩ : ∃ n, b.length = n := ⟨_, rfl⟩
  have HN := Aside0.mk hn
  have hpl : plainC t b = if knd t = 0 then 0x08000000 else if 4096 < (n : Int) ∨ (knd t ≠ 6 ∧ siz t < n) then 0x06070012 else if (n : Int) < siz t then 0x06070013 else if (knd t = 1 ∧ (1 : Int) < b[0]?.getD 0) ∨ (knd t = 5 ∧ 86400000 ≤ num (b.take 4)) then 0x06090030 else 0 := by unfold plainC; rw [hn]
  rw [hn] at hle ⊢
  have HS := Aside0.mk (rsize_any t w)
  have HR := Aside0.mk (rright_any t w)
  have HK := Aside0.mk (rkind_any t w)
  clear h hn
  by_cases h0 : knd t = 0
  · rw [if_pos h0] at hpl
    rw [hpl]
    have d0 : decide (knd t ≠ 0) = false := by simp [h0]
    rw [d0] at HR
    clear hpl hp hs h8
    go_enter Tryd.func142, Tryd.ntmps142
    go_wp2_with (first
      | (go_at_call 141; refine HS.out.mono ?_; rintro e w1 ⟨rfl, rfl⟩)
      | (go_at_call 139; refine HR.out.mono ?_; rintro e w1 ⟨rfl, rfl⟩))
    go_ret
    exact ⟨rfl, rfl⟩
  rw [if_neg h0] at hpl
  have d0 : decide (knd t ≠ 0) = true := by simp [h0]
  rw [d0] at HR
  have hd4 : b.length ≤ 8 → True := fun _ => trivial
  obtain ⟨fx, hfx⟩ : ∃ fx, decide (0 < siz t) = fx := ⟨_, rfl⟩
  rw [hfx] at HS
  have hfx' : (fx = true ↔ knd t ≠ 6) := by
    rw [← hfx, decide_eq_true_iff, hp]
    exact ⟨fun k => k.2, fun k => ⟨h0, k⟩⟩
  obtain ⟨s, hsz⟩ : ∃ s, siz t = s := ⟨_, rfl⟩
  rw [hsz] at HS hpl hs h8
  obtain ⟨L, hL⟩ : ∃ L, letR (knd t) = L := ⟨_, rfl⟩
  rw [hL] at HK e1 e5
  have HPL := Aside0.mk hpl
  obtain ⟨r, hr⟩ : ∃ r, plainC t b = r := ⟨_, rfl⟩
  rw [hr] at HPL ⊢
  have HH := Aside0.mk (And.intro hfx' (And.intro hs (And.intro e1 e5)))
  have HL := Aside0.mk hL
  clear hpl hfx hfx' hsz hL hp hs hr e1 e5
  have hsr : 0 ≤ s ∧ s ≤ 8 := by omega
  clear h8
  have hn0 : (0 : Int) ≤ (n : Int) := by omega
  cases fx with
  | false =>
    have h6 : knd t = 6 := by
      have h1 := HH.out.1
      by_cases k : knd t = 6
      · exact k
      · exact absurd (h1.2 k) (by simp)
    have hL : L = 115 := by
      rw [h6] at HL
      exact HL.out.symm
    have hs0 : s = 0 := HH.out.2.1.2.2.2.2.2.1 h6
    subst hL hs0
    by_cases hbig : 4096 < (n : Int)
    · obtain rfl : r = 0x06070012 := by rw [HPL.out, if_pos (.inl hbig)]
      go_enter Tryd.func142, Tryd.ntmps142
      go_wp2_with (first
        | (go_at_call 141; refine HS.out.mono ?_; rintro e w1 ⟨rfl, rfl⟩)
        | (go_at_call 139; refine HR.out.mono ?_; rintro e w1 ⟨rfl, rfl⟩)
        | (go_at_call 143; refine HK.out.mono ?_; rintro e w1 ⟨rfl, rfl⟩))
      go_ret
      exact ⟨rfl, rfl⟩
    · obtain rfl : r = 0 := by
        rw [HPL.out, if_neg (by rintro (k | k); exact hbig k; exact k.1 h6), if_neg (by omega), if_neg (by rintro (k | k) <;> omega)]
      go_enter Tryd.func142, Tryd.ntmps142
      go_wp2_with (first
        | (go_at_call 141; refine HS.out.mono ?_; rintro e w1 ⟨rfl, rfl⟩)
        | (go_at_call 139; refine HR.out.mono ?_; rintro e w1 ⟨rfl, rfl⟩)
        | (go_at_call 143; refine HK.out.mono ?_; rintro e w1 ⟨rfl, rfl⟩))
      go_ret
      exact ⟨rfl, rfl⟩
  | true =>
    have h6 : knd t ≠ 6 := HH.out.1.1 rfl
    by_cases hbig : s < n
    · obtain rfl : r = 0x06070012 := by rw [HPL.out, if_pos (.inr ⟨h6, hbig⟩)]
      go_enter Tryd.func142, Tryd.ntmps142
      go_wp2_with (first
        | (go_at_call 141; refine HS.out.mono ?_; rintro e w1 ⟨rfl, rfl⟩)
        | (go_at_call 139; refine HR.out.mono ?_; rintro e w1 ⟨rfl, rfl⟩)
        | (go_at_call 143; refine HK.out.mono ?_; rintro e w1 ⟨rfl, rfl⟩))
      go_ret
      exact ⟨rfl, rfl⟩
    by_cases hsm : (n : Int) < s
    · obtain rfl : r = 0x06070013 := by rw [HPL.out, if_neg (by rintro (k | k); omega; exact hbig k.2), if_pos hsm]
      go_enter Tryd.func142, Tryd.ntmps142
      go_wp2_with (first
        | (go_at_call 141; refine HS.out.mono ?_; rintro e w1 ⟨rfl, rfl⟩)
        | (go_at_call 139; refine HR.out.mono ?_; rintro e w1 ⟨rfl, rfl⟩)
        | (go_at_call 143; refine HK.out.mono ?_; rintro e w1 ⟨rfl, rfl⟩))
      go_ret
      exact ⟨rfl, rfl⟩
    have hns : (n : Int) = s := by omega
    have hr0 : r = if (knd t = 1 ∧ (1 : Int) < b[0]?.getD 0) ∨ (knd t = 5 ∧ 86400000 ≤ num (b.take 4)) then 0x06090030 else 0 := by rw [HPL.out, if_neg (by rintro (k | k); omega; exact hbig k.2), if_neg hsm]
    by_cases h1 : knd t = 1
    · have hs1 : s = 1 := HH.out.2.1.1 h1
      have hL : L = 98 := HH.out.2.2.1.2 h1
      subst hs1 hL
      obtain rfl : n = 1 := by omega
      obtain ⟨ad, rfl, hc0⟩ := HA.out.rd.at_ 0 (by rw [HN.out]; omega)
      have hc1 : w.cell? ad = some (.int .u8 (b[0]?.getD 0)) := by rw [show ad.add 0 = ad from by unfold Addr.add; rw [if_pos rfl]] at hc0; exact hc0
      generalize b[0]?.getD 0 = x at hr0 hc0 hc1
      by_cases hx : (1 : Int) < x
      · obtain rfl : r = 0x06090030 := by rw [hr0, if_pos (.inl ⟨h1, hx⟩)]
        clear hr0
        go_enter Tryd.func142, Tryd.ntmps142
        go_wp2_with (first
          | (go_at_call 141; refine HS.out.mono ?_; rintro e w1 ⟨rfl, rfl⟩)
          | (go_at_call 139; refine HR.out.mono ?_; rintro e w1 ⟨rfl, rfl⟩)
          | (go_at_call 143; refine HK.out.mono ?_; rintro e w1 ⟨rfl, rfl⟩))
        go_ret
        exact ⟨rfl, rfl⟩
      · obtain rfl : r = 0 := by rw [hr0, if_neg (by rintro (k | k); exact hx k.2; omega)]
        clear hr0
        go_enter Tryd.func142, Tryd.ntmps142
        go_wp2_with (first
          | (go_at_call 141; refine HS.out.mono ?_; rintro e w1 ⟨rfl, rfl⟩)
          | (go_at_call 139; refine HR.out.mono ?_; rintro e w1 ⟨rfl, rfl⟩)
          | (go_at_call 143; refine HK.out.mono ?_; rintro e w1 ⟨rfl, rfl⟩))
        go_ret
        exact ⟨rfl, rfl⟩
    · by_cases h5 : knd t = 5
      · have hs5 : s = 6 := HH.out.2.1.2.2.2.2.1 h5
        have hL : L = 116 := HH.out.2.2.2.2 h5
        subst hs5 hL
        obtain rfl : n = 6 := by omega
        have hl4 : (b.take 4).length = 4 := by rw [List.length_take, HN.out]; rfl
        have HNU := Aside0.mk (rnumber_any A c (b.take 4) w (HA.out.take 4 (by omega)) (by omega))
        rw [hl4] at HNU
        generalize num (b.take 4) = x at hr0 HNU
        have hc4 : (4 : Int) ≤ (c : Int) := by omega
        by_cases hx : 86400000 ≤ x
        · obtain rfl : r = 0x06090030 := by rw [hr0, if_pos (.inr ⟨h5, hx⟩)]
          clear hr0
          go_enter Tryd.func142, Tryd.ntmps142
          go_wp2_with (first
            | (go_at_call 141; refine HS.out.mono ?_; rintro e w1 ⟨rfl, rfl⟩)
            | (go_at_call 139; refine HR.out.mono ?_; rintro e w1 ⟨rfl, rfl⟩)
            | (go_at_call 143; refine HK.out.mono ?_; rintro e w1 ⟨rfl, rfl⟩)
            | (go_at_call 154; refine HNU.out.mono ?_; rintro e w1 ⟨rfl, rfl⟩))
          go_ret
          exact ⟨rfl, rfl⟩
        · obtain rfl : r = 0 := by rw [hr0, if_neg (by rintro (k | k); omega; exact hx k.2)]
          clear hr0
          go_enter Tryd.func142, Tryd.ntmps142
          go_wp2_with (first
            | (go_at_call 141; refine HS.out.mono ?_; rintro e w1 ⟨rfl, rfl⟩)
            | (go_at_call 139; refine HR.out.mono ?_; rintro e w1 ⟨rfl, rfl⟩)
            | (go_at_call 143; refine HK.out.mono ?_; rintro e w1 ⟨rfl, rfl⟩)
            | (go_at_call 154; refine HNU.out.mono ?_; rintro e w1 ⟨rfl, rfl⟩))
          go_ret
          exact ⟨rfl, rfl⟩
      · obtain rfl : r = 0 := by rw [hr0, if_neg (by rintro (k | k); exact h1 k.1; exact h5 k.1)]
        clear hr0
        have g1 : (L == 98) = false := by have := HH.out.2.2.1; simpa using fun k => h1 (this.1 k)
        have g2 : (L == 116) = false := by have := HH.out.2.2.2; simpa using fun k => h5 (this.1 k)
        go_enter Tryd.func142, Tryd.ntmps142
        go_wp2_with (first
          | (go_at_call 141; refine HS.out.mono ?_; rintro e w1 ⟨rfl, rfl⟩)
          | (go_at_call 139; refine HR.out.mono ?_; rintro e w1 ⟨rfl, rfl⟩)
          | (go_at_call 143; refine HK.out.mono ?_; rintro e w1 ⟨rfl, rfl⟩))
        go_ret
        exact ⟨rfl, rfl⟩
end Go.Proofs.YtokebpeplopjhaaDoor.Mp
namespace Go.Proofs.YtokebpeplopjhaaDoor.Mp
open Go.RowKit Go.Shelf Go.Proofs.YtokebpeplopjhaaDoor.Rng Go.Proofs.YtokebpeplopjhaaDoorW.PrintWords Go.Proofs.YtokebpeplopjhaaDoorW.PrintMore Go.Proofs.YtokebpeplopjhaaDoorW.PrintLast

theorem num_64 {b : List Int} (hb : Byt b) (hl : b.length ≤ 8) : 0 ≤ num b ∧ num b < 18446744073709551616 := by
  refine ⟨num_nonneg hb, ?_⟩
  have h1 := num_lt hb
  by_cases h8 : b.length = 8
  · rw [h8] at h1
    exact h1
  · have h2 := Num.pow256 b.length (by omega)
    omega
theorem and_31 {N : Int} (h : 0 ≤ N ∧ N < 18446744073709551616) : bits .and .u64 N 2147483647 = N % 2147483648 := by
  obtain ⟨x, rfl⟩ := Int.eq_ofNat_of_zero_le h.1
  rw [show (2147483647 : Int) = ((2147483647 : Nat) : Int) from rfl, bits_and_u64_nat _ _ (by omega) (by omega), Nat.and_two_pow_sub_one_eq_mod x 31]
  omega
theorem and_63 {N : Int} (h : 0 ≤ N ∧ N < 18446744073709551616) : bits .and .u64 N 9223372036854775807 = N % 9223372036854775808 := by
  obtain ⟨x, rfl⟩ := Int.eq_ofNat_of_zero_le h.1
  rw [show (9223372036854775807 : Int) = ((9223372036854775807 : Nat) : Int) from rfl, bits_and_u64_nat _ _ (by omega) (by omega), Nat.and_two_pow_sub_one_eq_mod x 63]
  omega
set_option maxRecDepth 100000 in
set_option maxHeartbeats 2000000 in
theorem rnan_any (t : Int) (A : Option Addr) (c : Nat) (b : List Int) (w : World) (h : Arg w A c b) (hl : b.length ≤ 8) :
    Calls Tryd.prog 145 #[.int .u8 t, .slice A b.length c] w fun e w' => e = .returned (.bool (decide (nanR t b))) ∧ w' = w := by
  have HN := Aside0.mk (rnumber_any A c b w h hl)
  have hn := num_64 h.byt hl
  have e1 := and_31 hn
  have e2 := and_63 hn
  generalize b.length = n at HN ⊢
  have hd : decide (nanR t b) = (decide (t = 8 ∧ 2139095040 < num b % 2147483648) || decide (t = 17 ∧ 9218868437227405312 < num b % 9223372036854775808)) := by
    unfold nanR
    by_cases k1 : t = 8 ∧ 2139095040 < num b % 2147483648 <;> by_cases k2 : t = 17 ∧ 9218868437227405312 < num b % 9223372036854775808 <;> simp [k1, k2]
  rw [hd]
  generalize num b = N at HN e1 e2 hn ⊢
  clear hd h hl
  by_cases h8 : t = 8
  · subst h8
    by_cases hx : 2139095040 < N % 2147483648
    · rw [show (decide ((8 : Int) = 8 ∧ 2139095040 < N % 2147483648) || decide ((8 : Int) = 17 ∧ 9218868437227405312 < N % 9223372036854775808)) = true by simp [hx]]
      have dx := decide_eq_true hx
      go_enter Tryd.func145, Tryd.ntmps145
      go_wp2_with (go_at_call 154; refine HN.out.mono ?_; rintro e w1 ⟨rfl, rfl⟩)
      go_ret
      exact ⟨rfl, rfl⟩
    · rw [show (decide ((8 : Int) = 8 ∧ 2139095040 < N % 2147483648) || decide ((8 : Int) = 17 ∧ 9218868437227405312 < N % 9223372036854775808)) = false by simp [hx]]
      have dx := decide_eq_false hx
      go_enter Tryd.func145, Tryd.ntmps145
      go_wp2_with (go_at_call 154; refine HN.out.mono ?_; rintro e w1 ⟨rfl, rfl⟩)
      go_ret
      exact ⟨rfl, rfl⟩
  have g8 : (t == 8) = false := by simpa using h8
  by_cases h17 : t = 17
  · subst h17
    by_cases hx : 9218868437227405312 < N % 9223372036854775808
    · rw [show (decide ((17 : Int) = 8 ∧ 2139095040 < N % 2147483648) || decide ((17 : Int) = 17 ∧ 9218868437227405312 < N % 9223372036854775808)) = true by simp [hx]]
      have dx := decide_eq_true hx
      go_enter Tryd.func145, Tryd.ntmps145
      go_wp2_with (go_at_call 154; refine HN.out.mono ?_; rintro e w1 ⟨rfl, rfl⟩)
      go_ret
      exact ⟨rfl, rfl⟩
    · rw [show (decide ((17 : Int) = 8 ∧ 2139095040 < N % 2147483648) || decide ((17 : Int) = 17 ∧ 9218868437227405312 < N % 9223372036854775808)) = false by simp [hx]]
      have dx := decide_eq_false hx
      go_enter Tryd.func145, Tryd.ntmps145
      go_wp2_with (go_at_call 154; refine HN.out.mono ?_; rintro e w1 ⟨rfl, rfl⟩)
      go_ret
      exact ⟨rfl, rfl⟩
  have g17 : (t == 17) = false := by simpa using h17
  rw [show (decide (t = 8 ∧ 2139095040 < N % 2147483648) || decide (t = 17 ∧ 9218868437227405312 < N % 9223372036854775808)) = false by simp [h8, h17]]
  go_enter Tryd.func145, Tryd.ntmps145
  go_wp2_with (go_at_call 154; refine HN.out.mono ?_; rintro e w1 ⟨rfl, rfl⟩)
  go_ret
  exact ⟨rfl, rfl⟩
theorem plain_8 {t : Int} {b : List Int} (h : plainC t b = 0) (h6 : knd t ≠ 6) : b.length ≤ 8 := by
  have h1 := (plainC_0 h).2.2.1 h6
  have h2 := siz_cases t
  omega
set_option maxRecDepth 100000 in
set_option maxHeartbeats 2000000 in
theorem rordered_any (t : Int) (A : Option Addr) (c : Nat) (b : List Int) (w : World) (h : Arg w A c b) :
    Calls Tryd.prog 144 #[.int .u8 t, .slice A b.length c] w fun e w' => e = .returned (.bool (decide (ordR t b))) ∧ w' = w := by
  have HP := Aside0.mk (rplain_any t A c b w h)
  have HK := Aside0.mk (rkind_any t w)
  by_cases hp : plainC t b = 0
  · rw [hp] at HP
    by_cases h6 : knd t = 6
    · rw [show decide (ordR t b) = false from decide_eq_false fun k => k.2.1 h6]
      rw [h6] at HK
      generalize b.length = n at HP ⊢
      clear h
      go_enter Tryd.func144, Tryd.ntmps144
      go_wp2_with (first
        | (go_at_call 142; refine HP.out.mono ?_; rintro e w1 ⟨rfl, rfl⟩)
        | (go_at_call 143; refine HK.out.mono ?_; rintro e w1 ⟨rfl, rfl⟩))
      go_ret
      exact ⟨rfl, rfl⟩
    · have HN := Aside0.mk (rnan_any t A c b w h (plain_8 hp h6))
      have hd : decide (ordR t b) = !decide (nanR t b) := by
        unfold ordR
        by_cases k : nanR t b <;> simp [hp, h6, k]
      rw [hd]
      have g : (letR (knd t) != 115) = true := by
        have := (letR_eq (knd t) (knd_cases t)).2.2.1
        simpa using fun k => h6 (this.1 k)
      generalize letR (knd t) = L at HK g
      generalize decide (nanR t b) = q at HN ⊢
      generalize b.length = n at HP HN ⊢
      clear h hd
      cases q
      · go_enter Tryd.func144, Tryd.ntmps144
        go_wp2_with (first
          | (go_at_call 142; refine HP.out.mono ?_; rintro e w1 ⟨rfl, rfl⟩)
          | (go_at_call 145; refine HN.out.mono ?_; rintro e w1 ⟨rfl, rfl⟩)
          | (go_at_call 143; refine HK.out.mono ?_; rintro e w1 ⟨rfl, rfl⟩))
        go_ret
        exact ⟨rfl, rfl⟩
      · go_enter Tryd.func144, Tryd.ntmps144
        go_wp2_with (first
          | (go_at_call 142; refine HP.out.mono ?_; rintro e w1 ⟨rfl, rfl⟩)
          | (go_at_call 145; refine HN.out.mono ?_; rintro e w1 ⟨rfl, rfl⟩)
          | (go_at_call 143; refine HK.out.mono ?_; rintro e w1 ⟨rfl, rfl⟩))
        go_ret
        exact ⟨rfl, rfl⟩
  · rw [show decide (ordR t b) = false from decide_eq_false fun k => hp k.1]
    generalize b.length = n at HP ⊢
    generalize plainC t b = r at HP hp
    have g : (r == 0) = false := by simpa using hp
    clear h
    go_enter Tryd.func144, Tryd.ntmps144
    go_wp2_with (go_at_call 142; refine HP.out.mono ?_; rintro e w1 ⟨rfl, rfl⟩)
    go_ret
    exact ⟨rfl, rfl⟩
end Go.Proofs.YtokebpeplopjhaaDoor.Mp
namespace Go.Proofs.YtokebpeplopjhaaDoor.Mp
open Go.RowKit Go.Shelf Go.Proofs.YtokebpeplopjhaaDoor.Rng Go.Proofs.YtokebpeplopjhaaDoorW.PrintWords Go.Proofs.YtokebpeplopjhaaDoorW.PrintMore Go.Proofs.YtokebpeplopjhaaDoorW.PrintLast

theorem xor_low (m x : Nat) (h : x < 2 ^ m) : x ^^^ 2 ^ m = x + 2 ^ m := by
  rw [Nat.add_comm, show 2 ^ m + x = 2 ^ m * 1 + x by omega, Nat.two_pow_add_eq_or_of_lt h, Nat.mul_one]
  apply Nat.eq_of_testBit_eq
  intro i
  rw [Nat.testBit_xor, Nat.testBit_or, Nat.testBit_two_pow]
  by_cases hi : m = i
  · subst hi
    simp [Nat.testBit_lt_two_pow h]
  · simp [hi]
theorem xor_top (m x : Nat) (h : x < 2 ^ (m + 1)) : x ^^^ 2 ^ m = if x < 2 ^ m then x + 2 ^ m else x - 2 ^ m := by
  by_cases h1 : x < 2 ^ m
  · rw [if_pos h1, xor_low m x h1]
  · rw [if_neg h1]
    have h2 : x - 2 ^ m < 2 ^ m := by rw [Nat.pow_succ] at h; omega
    have h3 := xor_low m (x - 2 ^ m) h2
    rw [show x - 2 ^ m + 2 ^ m = x by omega] at h3
    have h4 : ((x - 2 ^ m) ^^^ 2 ^ m) ^^^ 2 ^ m = x - 2 ^ m := by rw [Nat.xor_assoc, Nat.xor_self, Nat.xor_zero]
    rw [h3] at h4
    exact h4
theorem xor_i (m : Nat) (hm : m ≤ 63) (N : Int) (h : 0 ≤ N ∧ N < 2 ^ (m + 1)) : bits .xor .u64 N ((2 ^ m : Nat) : Int) = if 2 * N < 2 ^ (m + 1) then N + 2 ^ m else N - 2 ^ m := by
  obtain ⟨x, rfl⟩ := Int.eq_ofNat_of_zero_le h.1
  have hx : x < 2 ^ (m + 1) := by exact_mod_cast h.2
  have hp : (2 : Nat) ^ m ≤ 2 ^ 63 := Nat.pow_le_pow_right (by omega) hm
  have hp1 : (2 : Nat) ^ (m + 1) = 2 * 2 ^ m := by rw [Nat.pow_succ, Nat.mul_comm]
  have hpi : (2 : Int) ^ (m + 1) = 2 * 2 ^ m := by rw [Int.pow_succ, Int.mul_comm]
  have e : (2 : Int) ^ m = ((2 ^ m : Nat) : Int) := by push_cast; rfl
  rw [bits_xor_u64_nat _ _ (by omega) (by omega), xor_top m x hx, hpi, e]
  generalize (2 : Nat) ^ m = P at *
  by_cases h1 : x < P
  · rw [if_pos h1, if_pos (by omega)]
    push_cast
    rfl
  · rw [if_neg h1, if_neg (by omega)]
    omega
theorem or_32 {a b : Int} (ha : 0 ≤ a ∧ a < 4294967296) (hb : 0 ≤ b ∧ b < 4294967296) : bits .or .u64 (IntKind.u64.wrap (a * 4294967296)) b = a * 4294967296 + b := by
  obtain ⟨x, rfl⟩ := Int.eq_ofNat_of_zero_le ha.1
  obtain ⟨y, rfl⟩ := Int.eq_ofNat_of_zero_le hb.1
  have hw : IntKind.u64.wrap ((x : Int) * 4294967296) = ((2 ^ 32 * x : Nat) : Int) := by
    rw [IntKind.wrap_u64]
    omega
  have hy : y < 2 ^ 32 := by omega
  rw [hw, bits_or_u64_nat _ _ (by omega) (by omega), ← Nat.two_pow_add_eq_or_of_lt hy]
  omega
def KeySaid (w : World) (r : Int) (e : Ending) (w' : World) : Prop := e = .returned (.int .u64 r) ∧ Below w.heap.size w w'
set_option maxRecDepth 100000 in
set_option maxHeartbeats 4000000 in
theorem rkey_any (t : Int) (A : Option Addr) (c : Nat) (b : List Int) (w : World) (h : Arg w A c b) (hp : plainC t b = 0) (h6 : knd t ≠ 6) :
    Calls Tryd.prog 146 #[.int .u8 t, .slice A b.length c] w (KeySaid w (keyR t b)) := by
  have hl8 := plain_8 hp h6
  have HNM := Aside0.mk (rnumber_any A c b w h hl8)
  have HK := Aside0.mk (rkind_any t w)
  have HA := Aside0.mk h
  have hlen := (plainC_0 hp).2.2.1 h6
  have hn := num_64 h.byt hl8
  have hlt := num_lt h.byt
  have hs := siz_of t
  have hcap := h.cap
  have hle := h.le
  obtain ⟨n, hnn⟩ : ∃ n, b.length = n := ⟨_, rfl⟩
  have HN := Aside0.mk hnn
  by_cases h2 : knd t = 2
  · have hkr : keyR t b = (if 2 * num b < 256 ^ n then num b else num b - 256 ^ n) + 256 ^ n / 2 := by
      unfold keyR wholeC
      rw [if_pos h2, hnn]
    rw [hkr]
    rw [h2] at HK
    have hc := hs.2.1 h2
    rw [hnn] at HNM hlen hlt ⊢
    generalize num b = N at *
    clear h hp hs hkr
    have hcs : n = 1 ∨ n = 2 ∨ n = 3 ∨ n = 4 ∨ n = 8 := by omega
    rcases hcs with rfl | rfl | rfl | rfl | rfl
    · have hx := xor_i 7 (by omega) N ⟨hn.1, by simpa using hlt⟩
      have hx' : bits .xor .u64 N 128 = (if 2 * N < 256 ^ 1 then N else N - 256 ^ 1) + 256 ^ 1 / 2 := by
        rw [show ((2 ^ 7 : Nat) : Int) = 128 from rfl, show (2 : Int) ^ (7 + 1) = 256 from rfl, show (2 : Int) ^ 7 = 128 from rfl] at hx
        rw [hx, show (256 : Int) ^ 1 = 256 from rfl]
        by_cases k : 2 * N < 256
        · rw [if_pos k, if_pos k]
          omega
        · rw [if_neg k, if_neg k]
          omega
      rw [← hx']
      clear hx hx' hlt hlen hc
      go_enter Tryd.func146, Tryd.ntmps146
      go_wp2_with (first
        | (go_at_call 154; refine HNM.out.mono ?_; rintro e w1 ⟨rfl, hw⟩; have hw := hw.symm; subst hw)
        | (go_at_call 143; refine HK.out.mono ?_; rintro e w1 ⟨rfl, hw⟩; have hw := hw.symm; subst hw))
      go_ret
      exact ⟨rfl, Below.refl _ _⟩
    · have hx := xor_i 15 (by omega) N ⟨hn.1, by simpa using hlt⟩
      have hx' : bits .xor .u64 N 32768 = (if 2 * N < 256 ^ 2 then N else N - 256 ^ 2) + 256 ^ 2 / 2 := by
        rw [show ((2 ^ 15 : Nat) : Int) = 32768 from rfl, show (2 : Int) ^ (15 + 1) = 65536 from rfl, show (2 : Int) ^ 15 = 32768 from rfl] at hx
        rw [hx, show (256 : Int) ^ 2 = 65536 from rfl]
        by_cases k : 2 * N < 65536
        · rw [if_pos k, if_pos k]
          omega
        · rw [if_neg k, if_neg k]
          omega
      rw [← hx']
      clear hx hx' hlt hlen hc
      go_enter Tryd.func146, Tryd.ntmps146
      go_wp2_with (first
        | (go_at_call 154; refine HNM.out.mono ?_; rintro e w1 ⟨rfl, hw⟩; have hw := hw.symm; subst hw)
        | (go_at_call 143; refine HK.out.mono ?_; rintro e w1 ⟨rfl, hw⟩; have hw := hw.symm; subst hw))
      go_ret
      exact ⟨rfl, Below.refl _ _⟩
    · have hx := xor_i 23 (by omega) N ⟨hn.1, by simpa using hlt⟩
      have hx' : bits .xor .u64 N 8388608 = (if 2 * N < 256 ^ 3 then N else N - 256 ^ 3) + 256 ^ 3 / 2 := by
        rw [show ((2 ^ 23 : Nat) : Int) = 8388608 from rfl, show (2 : Int) ^ (23 + 1) = 16777216 from rfl, show (2 : Int) ^ 23 = 8388608 from rfl] at hx
        rw [hx, show (256 : Int) ^ 3 = 16777216 from rfl]
        by_cases k : 2 * N < 16777216
        · rw [if_pos k, if_pos k]
          omega
        · rw [if_neg k, if_neg k]
          omega
      rw [← hx']
      clear hx hx' hlt hlen hc
      go_enter Tryd.func146, Tryd.ntmps146
      go_wp2_with (first
        | (go_at_call 154; refine HNM.out.mono ?_; rintro e w1 ⟨rfl, hw⟩; have hw := hw.symm; subst hw)
        | (go_at_call 143; refine HK.out.mono ?_; rintro e w1 ⟨rfl, hw⟩; have hw := hw.symm; subst hw))
      go_ret
      exact ⟨rfl, Below.refl _ _⟩
    · have hx := xor_i 31 (by omega) N ⟨hn.1, by simpa using hlt⟩
      have hx' : bits .xor .u64 N 2147483648 = (if 2 * N < 256 ^ 4 then N else N - 256 ^ 4) + 256 ^ 4 / 2 := by
        rw [show ((2 ^ 31 : Nat) : Int) = 2147483648 from rfl, show (2 : Int) ^ (31 + 1) = 4294967296 from rfl, show (2 : Int) ^ 31 = 2147483648 from rfl] at hx
        rw [hx, show (256 : Int) ^ 4 = 4294967296 from rfl]
        by_cases k : 2 * N < 4294967296
        · rw [if_pos k, if_pos k]
          omega
        · rw [if_neg k, if_neg k]
          omega
      rw [← hx']
      clear hx hx' hlt hlen hc
      go_enter Tryd.func146, Tryd.ntmps146
      go_wp2_with (first
        | (go_at_call 154; refine HNM.out.mono ?_; rintro e w1 ⟨rfl, hw⟩; have hw := hw.symm; subst hw)
        | (go_at_call 143; refine HK.out.mono ?_; rintro e w1 ⟨rfl, hw⟩; have hw := hw.symm; subst hw))
      go_ret
      exact ⟨rfl, Below.refl _ _⟩
    · have hx := xor_i 63 (by omega) N ⟨hn.1, by simpa using hlt⟩
      have hx' : bits .xor .u64 N 9223372036854775808 = (if 2 * N < 256 ^ 8 then N else N - 256 ^ 8) + 256 ^ 8 / 2 := by
        rw [show ((2 ^ 63 : Nat) : Int) = 9223372036854775808 from rfl, show (2 : Int) ^ (63 + 1) = 18446744073709551616 from rfl, show (2 : Int) ^ 63 = 9223372036854775808 from rfl] at hx
        rw [hx, show (256 : Int) ^ 8 = 18446744073709551616 from rfl]
        by_cases k : 2 * N < 18446744073709551616
        · rw [if_pos k, if_pos k]
          omega
        · rw [if_neg k, if_neg k]
          omega
      rw [← hx']
      clear hx hx' hlt hlen hc
      go_enter Tryd.func146, Tryd.ntmps146
      go_wp2_with (first
        | (go_at_call 154; refine HNM.out.mono ?_; rintro e w1 ⟨rfl, hw⟩; have hw := hw.symm; subst hw)
        | (go_at_call 143; refine HK.out.mono ?_; rintro e w1 ⟨rfl, hw⟩; have hw := hw.symm; subst hw))
      go_ret
      exact ⟨rfl, Below.refl _ _⟩
  by_cases h4 : knd t = 4
  · have hkr := key_4 (t := t) h4 (b := b)
    rw [hkr]
    rw [h4] at HK
    have hc := hs.2.2.2.1 h4
    rw [hnn] at HNM hlen hlt ⊢
    generalize num b = N at *
    clear h hp hs hkr
    have hcs : n = 4 ∨ n = 8 := by omega
    rcases hcs with rfl | rfl
    · have hN : N < 4294967296 := by simpa using hlt
      rw [if_pos rfl]
      have hd : (IntKind.u64.wrap (N / 2147483648)) = N / 2147483648 := by rw [IntKind.wrap_u64]; omega
      by_cases hg : 2147483648 ≤ N
      · have hq : (N / 2147483648 == 1) = true := beq_iff_eq.2 (by omega)
        have hk : kyS N.toNat = 4294967295 - N := by unfold kyS; rw [if_neg (by omega)]; omega
        rw [hk]
        have w1 : IntKind.u64.wrap (N - 2147483648) = N - 2147483648 := by rw [IntKind.wrap_u64]; omega
        have w2 : IntKind.u64.wrap (2147483647 - (N - 2147483648)) = 4294967295 - N := by rw [IntKind.wrap_u64]; omega
        have h31 : IntKind.i64.wrap 31 = 31 := by decide
        have hu1 : IntKind.u64.wrap 2147483648 = 2147483648 := by decide
        have hu2 : IntKind.u64.wrap 2147483647 = 2147483647 := by decide
        have hS0 : Below w.heap.size w w := Below.refl _ _
        clear hk hlt hlen hc
        go_enter Tryd.func146, Tryd.ntmps146
        go_wp2_with (first
          | (go_at_call 154; refine HNM.out.mono ?_; rintro e w1 ⟨rfl, hw⟩; have hw := hw.symm; subst hw)
          | (go_at_call 143; refine HK.out.mono ?_; rintro e w1 ⟨rfl, hw⟩; have hw := hw.symm; subst hw))
        go_region_held3 (fun X => Below w.heap.size w X) (first | assumption | exact below_step (by assumption) (by assumption) | exact below_drew (by assumption))
          (fail)
        go_wp2
        go_ret
        exact ⟨rfl, (Below.refl _ _).drew⟩
      · have hq : (N / 2147483648 == 1) = false := by rw [show N / 2147483648 = 0 from by omega]; rfl
        have hk : kyS N.toNat = N + 2147483648 := by unfold kyS; rw [if_pos (by omega)]; omega
        rw [hk]
        have w1 : IntKind.u64.wrap (N + 2147483648) = N + 2147483648 := by rw [IntKind.wrap_u64]; omega
        clear hk hlt hlen hc
        go_enter Tryd.func146, Tryd.ntmps146
        go_wp2_with (first
          | (go_at_call 154; refine HNM.out.mono ?_; rintro e w1 ⟨rfl, hw⟩; have hw := hw.symm; subst hw)
          | (go_at_call 143; refine HK.out.mono ?_; rintro e w1 ⟨rfl, hw⟩; have hw := hw.symm; subst hw))
        go_ret
        exact ⟨rfl, Below.refl _ _⟩
    · have hN : N < 18446744073709551616 := by simpa using hlt
      rw [if_neg (by decide)]
      have hd : (IntKind.u64.wrap (N / 9223372036854775808)) = N / 9223372036854775808 := by rw [IntKind.wrap_u64]; omega
      by_cases hg : 9223372036854775808 ≤ N
      · have hq : (N / 9223372036854775808 == 1) = true := beq_iff_eq.2 (by omega)
        have hk : kyD N.toNat = 18446744073709551615 - N := by unfold kyD; rw [if_neg (by omega)]; omega
        rw [hk]
        have w1 : IntKind.u64.wrap (N - 9223372036854775808) = N - 9223372036854775808 := by rw [IntKind.wrap_u64]; omega
        have w2 : IntKind.u64.wrap (9223372036854775807 - (N - 9223372036854775808)) = 18446744073709551615 - N := by rw [IntKind.wrap_u64]; omega
        have h31 : IntKind.i64.wrap 63 = 63 := by decide
        have hu1 : IntKind.u64.wrap 9223372036854775808 = 9223372036854775808 := by decide
        have hu2 : IntKind.u64.wrap 9223372036854775807 = 9223372036854775807 := by decide
        have hS0 : Below w.heap.size w w := Below.refl _ _
        clear hk hlt hlen hc
        go_enter Tryd.func146, Tryd.ntmps146
        go_wp2_with (first
          | (go_at_call 154; refine HNM.out.mono ?_; rintro e w1 ⟨rfl, hw⟩; have hw := hw.symm; subst hw)
          | (go_at_call 143; refine HK.out.mono ?_; rintro e w1 ⟨rfl, hw⟩; have hw := hw.symm; subst hw))
        go_region_held3 (fun X => Below w.heap.size w X) (first | assumption | exact below_step (by assumption) (by assumption) | exact below_drew (by assumption))
          (fail)
        go_wp2
        go_ret
        exact ⟨rfl, (Below.refl _ _).drew⟩
      · have hq : (N / 9223372036854775808 == 1) = false := by rw [show N / 9223372036854775808 = 0 from by omega]; rfl
        have hk : kyD N.toNat = N + 9223372036854775808 := by unfold kyD; rw [if_pos (by omega)]; omega
        rw [hk]
        have w1 : IntKind.u64.wrap (N + 9223372036854775808) = N + 9223372036854775808 := by rw [IntKind.wrap_u64]; omega
        clear hk hlt hlen hc
        go_enter Tryd.func146, Tryd.ntmps146
        go_wp2_with (first
          | (go_at_call 154; refine HNM.out.mono ?_; rintro e w1 ⟨rfl, hw⟩; have hw := hw.symm; subst hw)
          | (go_at_call 143; refine HK.out.mono ?_; rintro e w1 ⟨rfl, hw⟩; have hw := hw.symm; subst hw))
        go_ret
        exact ⟨rfl, Below.refl _ _⟩
  by_cases h5 : knd t = 5
  · have hc := hs.2.2.2.2.1 h5
    have hn6 : b.length = 6 := by omega
    have hkr : keyR t b = num (b.drop 4) * 4294967296 + num (b.take 4) := by
      unfold keyR
      rw [if_neg h2, if_neg h4, if_pos h5]
    rw [hkr]
    rw [h5] at HK
    have hd2 : (b.drop 4).length = 2 := by rw [List.length_drop]; omega
    have ht4 : (b.take 4).length = 4 := by rw [List.length_take]; omega
    obtain ⟨ad, rfl, -⟩ := h.rd.2 (by omega)
    have HD := Aside0.mk fun W (hW : Below w.heap.size w W) => (rnumber_any (some (ad.add 4)) (c - 4) (b.drop 4) W ⟨(h.rd.drop 4).below hW, byt_drop h.byt 4, by rw [List.length_drop]; omega, by omega⟩ (by omega)).mono (R' := fun e w' => e = .returned (.int .u64 (num (b.drop 4))) ∧ Below W.heap.size W w') (fun e w' he => ⟨he.1, by rw [he.2]; exact Below.refl _ _⟩)
    have HT := Aside0.mk fun W (hW : Below w.heap.size w W) => (rnumber_any (some ad) c (b.take 4) W ((h.below hW).take 4 (by omega)) (by omega)).mono (R' := fun e w' => e = .returned (.int .u64 (num (b.take 4))) ∧ Below W.heap.size W w') (fun e w' he => ⟨he.1, by rw [he.2]; exact Below.refl _ _⟩)
    rw [hd2] at HD
    rw [ht4] at HT
    have hbd : 0 ≤ num (b.drop 4) ∧ num (b.drop 4) < 4294967296 := by
      have h1 := num_lt (byt_drop h.byt 4)
      rw [hd2] at h1
      have h3 : (256 : Int) ^ 2 = 65536 := by decide
      exact ⟨num_nonneg (byt_drop h.byt 4), by omega⟩
    have hbt := num_4 (byt_take h.byt 4) ht4
    have hor := or_32 hbd hbt
    have e4 : ad.add 4 = ⟨ad.block, ad.off + 4, none⟩ := by unfold Addr.add; rw [if_neg (by omega)]
    rw [e4] at HD
    rw [hnn] at hn6
    subst hn6
    rw [hnn] at HNM ⊢
    generalize num b = N at *
    generalize num (b.drop 4) = N1 at *
    generalize num (b.take 4) = N2 at *
    have hc1 : (4 : Int) ≤ (c : Int) := by omega
    have hc2 : ¬ c = 4 := by omega
    have hS0 : Below w.heap.size w w := Below.refl _ _
    clear h hp hs hkr hlt hlen
    go_enter Tryd.func146, Tryd.ntmps146
    go_wp2_with (first
      | (go_at_call 154; refine HNM.out.mono ?_; rintro e w1 ⟨rfl, hw⟩; have hw := hw.symm; subst hw)
      | (go_at_call 143; refine HK.out.mono ?_; rintro e w1 ⟨rfl, hw⟩; have hw := hw.symm; subst hw))
    go_region_held3 (fun X => Below w.heap.size w X) (first | assumption | exact below_step (by assumption) (by assumption) | exact below_drew (by assumption))
      (first
        | (go_at_call 154; (with_reducible refine (HD.out _ (by assumption)).mono ?_); rintro e w3 ⟨rfl, hb3⟩)
        | (go_at_call 154; (with_reducible refine (HT.out _ (by assumption)).mono ?_); rintro e w4 ⟨rfl, hb4⟩))
    all_goals
      go_wp2
      go_ret
      exact ⟨rfl, by assumption⟩
  have hkr : keyR t b = num b := by
    unfold keyR
    rw [if_neg h2, if_neg h4, if_neg h5]
  rw [hkr]
  obtain ⟨-, e5, -, e2, e4, -⟩ := letR_eq (knd t) (knd_cases t)
  have g2 : (letR (knd t) == 105) = false := by simpa using fun k => h2 (e2.1 k)
  have g4 : (letR (knd t) == 102) = false := by simpa using fun k => h4 (e4.1 k)
  have g5 : (letR (knd t) == 116) = false := by simpa using fun k => h5 (e5.1 k)
  rw [hnn] at HNM ⊢
  generalize letR (knd t) = L at *
  generalize num b = N at *
  clear h hp hs hkr hlt hlen e5 e2 e4
  go_enter Tryd.func146, Tryd.ntmps146
  go_wp2_with (first
    | (go_at_call 154; refine HNM.out.mono ?_; rintro e w1 ⟨rfl, hw⟩; have hw := hw.symm; subst hw)
    | (go_at_call 143; refine HK.out.mono ?_; rintro e w1 ⟨rfl, hw⟩; have hw := hw.symm; subst hw))
  go_ret
  exact ⟨rfl, Below.refl _ _⟩
end Go.Proofs.YtokebpeplopjhaaDoor.Mp
namespace Go.Proofs.YtokebpeplopjhaaDoor.Mp
open Go.RowKit Go.Shelf Go.Proofs.YtokebpeplopjhaaDoor.Rng Go.Proofs.YtokebpeplopjhaaDoorW.PrintWords Go.Proofs.YtokebpeplopjhaaDoorW.PrintMore Go.Proofs.YtokebpeplopjhaaDoorW.PrintLast

def ChkSaidR (w : World) (r : Int) (e : Ending) (w' : World) : Prop := e = .returned (.int .u32 r) ∧ Below w.heap.size w w'
set_option maxRecDepth 100000 in
set_option maxHeartbeats 8000000 in
theorem rcheck_any (t : Int) (A : Option Addr) (c : Nat) (b : List Int) (A1 : Option Addr) (c1 : Nat) (lo : List Int) (A2 : Option Addr) (c2 : Nat) (hi : List Int) (w : World) (hb : Arg w A c b) (hl : Arg w A1 c1 lo) (hh : Arg w A2 c2 hi) :
    Calls Tryd.prog 125 #[.int .u8 t, .slice A b.length c, .slice A1 lo.length c1, .slice A2 hi.length c2] w (ChkSaidR w (chkR t b lo hi)) := by
  have HPL := Aside0.mk fun W (hW : Below w.heap.size w W) => rplain_any t A c b W (hb.below hW)
  have HK := Aside0.mk fun W => rkind_any t W
  have HOH := Aside0.mk fun W (hW : Below w.heap.size w W) => rordered_any t A2 c2 hi W (hh.below hW)
  have HOL := Aside0.mk fun W (hW : Below w.heap.size w W) => rordered_any t A1 c1 lo W (hl.below hW)
  have hrf : Below w.heap.size w w := Below.refl _ _
  obtain ⟨n, hn⟩ : ∃ n, b.length = n := ⟨_, rfl⟩
  obtain ⟨nl, hnl⟩ : ∃ n, lo.length = n := ⟨_, rfl⟩
  obtain ⟨nh, hnh⟩ : ∃ n, hi.length = n := ⟨_, rfl⟩
  have HN := Aside0.mk (And.intro hn (And.intro hnl hnh))
  obtain ⟨r, hr⟩ : ∃ r, chkR t b lo hi = r := ⟨_, rfl⟩
  have HR := Aside0.mk hr
  rw [hr]
  unfold chkR at hr
  by_cases hp' : plainC t b ≠ 0
  · rw [if_pos (.inl hp')] at hr
    subst hr
    have g : (plainC t b != 0) = true := by simpa using hp'
    rw [hn] at HPL
    rw [hn, hnl, hnh]
    generalize plainC t b = r at *
    clear hb hl hh hp'
    go_enter Tryd.func125, Tryd.ntmps125
    go_wp2_with (go_at_call 142; refine (HPL.out _ hrf).mono ?_; rintro e w1 ⟨rfl, hw⟩; have hw := hw.symm; subst hw)
    go_ret
    exact ⟨rfl, hrf⟩
  have hp : plainC t b = 0 := Classical.not_not.1 hp'
  rw [hp] at HPL
  by_cases h6 : knd t = 6
  · rw [if_pos (.inr h6), hp] at hr
    subst hr
    rw [h6] at HK
    rw [hn] at HPL
    rw [hn, hnl, hnh]
    clear hb hl hh hp'
    go_enter Tryd.func125, Tryd.ntmps125
    go_wp2_with (first
      | (go_at_call 142; refine (HPL.out _ hrf).mono ?_; rintro e w1 ⟨rfl, hw⟩; have hw := hw.symm; subst hw)
      | (go_at_call 143; refine (HK.out _).mono ?_; rintro e w1 ⟨rfl, hw⟩; have hw := hw.symm; subst hw))
    go_ret
    exact ⟨rfl, hrf⟩
  rw [if_neg (show ¬ (plainC t b ≠ 0 ∨ knd t = 6) by rintro (k | k); exact hp' k; exact h6 k)] at hr
  have g6 : (letR (knd t) == 115) = false := by
    have := (letR_eq (knd t) (knd_cases t)).2.2.1
    simpa using fun k => h6 (this.1 k)
  have HNB := Aside0.mk fun W (hW : Below w.heap.size w W) => rnan_any t A c b W (hb.below hW) (plain_8 hp h6)
  have HKB := Aside0.mk fun W (hW : Below w.heap.size w W) => rkey_any t A c b W (hb.below hW) hp h6
  have HKH := Aside0.mk fun (k : ordR t hi) W (hW : Below w.heap.size w W) => rkey_any t A2 c2 hi W (hh.below hW) k.1 h6
  have HKL := Aside0.mk fun (k : ordR t lo) W (hW : Below w.heap.size w W) => rkey_any t A1 c1 lo W (hl.below hW) k.1 h6
  rw [hn] at HPL HNB HKB
  rw [hnh] at HOH HKH
  rw [hnl] at HOL HKL
  rw [hn, hnl, hnh]
  rw [hnh, hnl] at hr
  obtain ⟨L, hL⟩ : ∃ L, letR (knd t) = L := ⟨_, rfl⟩
  rw [hL] at HK g6
  obtain ⟨kb, hkb⟩ : ∃ k, keyR t b = k := ⟨_, rfl⟩
  obtain ⟨kh, hkh⟩ : ∃ k, keyR t hi = k := ⟨_, rfl⟩
  obtain ⟨kl, hkl⟩ : ∃ k, keyR t lo = k := ⟨_, rfl⟩
  rw [hkb] at HKB hr
  rw [hkh] at HKH hr
  rw [hkl] at HKL hr
  have HRR := Aside0.mk hr
  have HF := Aside0.mk (And.intro hp (And.intro h6 hp'))
  clear hb hl hh hr hn hnl hnh hL hp hp' h6 hkb hkh hkl HR
  by_cases hh0 : ¬ 0 < nh
  · have dh : decide ((0 : Int) < (nh : Int)) = false := decide_eq_false (by omega)
    have hu : ¬ (0 < nh ∧ ordR t hi) := fun k => hh0 k.1
    by_cases hl0 : ¬ 0 < nl
    · have dl : decide ((0 : Int) < (nl : Int)) = false := decide_eq_false (by omega)
      have hv : ¬ (0 < nl ∧ ordR t lo) := fun k => hl0 k.1
      obtain rfl : r = 0 := by rw [← HRR.out]; rw [if_neg (fun k => by rcases k.1 with k | k; exact hu k; exact hv k), if_neg (fun k => hu k.1), if_neg (fun k => hv k.1)]
      clear HRR
      have HZ0 := Aside0.mk hrf
      have HZ := HZ0
      have GK0 := Aside0.mk True.intro
      have GH := Aside0.mk True.intro
      go_enter Tryd.func125, Tryd.ntmps125
      go_wp2_with (first
        | (go_at_call 142; refine (HPL.out _ hrf).mono ?_; rintro e w1 ⟨rfl, hw⟩; have hw := hw.symm; subst hw)
        | (go_at_call 143; refine (HK.out _).mono ?_; rintro e w1 ⟨rfl, hw⟩; have hw := hw.symm; subst hw))
      go_ret
      exact ⟨rfl, HZ.out⟩
    have dl : decide ((0 : Int) < (nl : Int)) = true := decide_eq_true (by omega)
    by_cases hol : ¬ ordR t lo
    · have DL := Aside0.mk (decide_eq_false hol)
      have hv : ¬ (0 < nl ∧ ordR t lo) := fun k => hol k.2
      obtain rfl : r = 0 := by rw [← HRR.out]; rw [if_neg (fun k => by rcases k.1 with k | k; exact hu k; exact hv k), if_neg (fun k => hu k.1), if_neg (fun k => hv k.1)]
      clear HRR
      have HZ0 := Aside0.mk hrf
      have HZ := HZ0
      have GK0 := Aside0.mk True.intro
      have GH := Aside0.mk True.intro
      go_enter Tryd.func125, Tryd.ntmps125
      go_wp2_with (first
        | (go_at_call 142; refine (HPL.out _ hrf).mono ?_; rintro e w1 ⟨rfl, hw⟩; have hw := hw.symm; subst hw)
        | (go_at_call 143; refine (HK.out _).mono ?_; rintro e w1 ⟨rfl, hw⟩; have hw := hw.symm; subst hw)
        | (go_at_call 144; refine (HOL.out _ hrf).mono ?_; rw [DL.out]; rintro e w1 ⟨rfl, hw⟩; have hw := hw.symm; subst hw))
      go_ret
      exact ⟨rfl, HZ.out⟩
    · have hol' : ordR t lo := Classical.not_not.1 hol
      have DL := Aside0.mk (decide_eq_true hol')
      have hv : 0 < nl ∧ ordR t lo := ⟨by omega, hol'⟩
      by_cases hq : nanR t b
      · have DQ := Aside0.mk (decide_eq_true hq)
        obtain rfl : r = 101253168 := by rw [← HRR.out]; rw [if_pos ⟨.inr hv, hq⟩]
        clear HRR
        have HZ0 := Aside0.mk hrf
        have HZ := HZ0
        have GK0 := Aside0.mk True.intro
        have GH := Aside0.mk True.intro
        go_enter Tryd.func125, Tryd.ntmps125
        go_wp2_with (first
          | (go_at_call 142; refine (HPL.out _ hrf).mono ?_; rintro e w1 ⟨rfl, hw⟩; have hw := hw.symm; subst hw)
          | (go_at_call 143; refine (HK.out _).mono ?_; rintro e w1 ⟨rfl, hw⟩; have hw := hw.symm; subst hw)
          | (go_at_call 144; refine (HOL.out _ hrf).mono ?_; rw [DL.out]; rintro e w1 ⟨rfl, hw⟩; have hw := hw.symm; subst hw)
          | (go_at_call 145; refine (HNB.out _ hrf).mono ?_; rw [DQ.out]; rintro e w1 ⟨rfl, hw⟩; have hw := hw.symm; subst hw))
        go_ret
        exact ⟨rfl, HZ.out⟩
      have DQ := Aside0.mk (decide_eq_false hq)
      by_cases hlt : kb < kl
      · have dg := decide_eq_true hlt
        obtain rfl : r = 101253170 := by rw [← HRR.out]; rw [if_neg (fun k => hq k.2)]; rw [if_neg (fun k => hu k.1), if_pos ⟨hv, hlt⟩]
        clear HRR
        have HZ0 := Aside0.mk hrf
        have HZ := HZ0
        have GK0 := Aside0.mk True.intro
        have GH := Aside0.mk True.intro
        go_enter Tryd.func125, Tryd.ntmps125
        go_wp2_with (first
          | (go_at_call 142; refine (HPL.out _ hrf).mono ?_; rintro e w1 ⟨rfl, hw⟩; have hw := hw.symm; subst hw)
          | (go_at_call 143; refine (HK.out _).mono ?_; rintro e w1 ⟨rfl, hw⟩; have hw := hw.symm; subst hw)
          | (go_at_call 144; refine (HOL.out _ hrf).mono ?_; rw [DL.out]; rintro e w1 ⟨rfl, hw⟩; have hw := hw.symm; subst hw)
          | (go_at_call 145; refine (HNB.out _ hrf).mono ?_; rw [DQ.out]; rintro e w1 ⟨rfl, hw⟩; have hw := hw.symm; subst hw)
          | (have hgate := GK0.out; clear hgate; go_at_call 146; refine (HKB.out _ HZ0.out).mono ?_; rintro e wk0 ⟨rfl, hb⟩; have HZ1 := Aside0.mk (HZ0.out.trans (hb.mono HZ0.out.size)); have HZ := HZ1; have GK1 := Aside0.mk True.intro; clear hb GK0)
          | (have hgate := GK1.out; clear hgate; go_at_call 146; refine (HKL.out hv.2 _ HZ1.out).mono ?_; rintro e wk1 ⟨rfl, hb⟩; have HZ2 := Aside0.mk (HZ1.out.trans (hb.mono HZ1.out.size)); have HZ := HZ2; have GK2 := Aside0.mk True.intro; clear hb GK1))
        go_ret
        exact ⟨rfl, HZ.out⟩
      have dg := decide_eq_false hlt
      obtain rfl : r = 0 := by rw [← HRR.out]; rw [if_neg (fun k => hq k.2)]; rw [if_neg (fun k => hu k.1), if_neg (fun k => hlt k.2)]
      clear HRR
      have HZ0 := Aside0.mk hrf
      have HZ := HZ0
      have GK0 := Aside0.mk True.intro
      have GH := Aside0.mk True.intro
      go_enter Tryd.func125, Tryd.ntmps125
      go_wp2_with (first
        | (go_at_call 142; refine (HPL.out _ hrf).mono ?_; rintro e w1 ⟨rfl, hw⟩; have hw := hw.symm; subst hw)
        | (go_at_call 143; refine (HK.out _).mono ?_; rintro e w1 ⟨rfl, hw⟩; have hw := hw.symm; subst hw)
        | (go_at_call 144; refine (HOL.out _ hrf).mono ?_; rw [DL.out]; rintro e w1 ⟨rfl, hw⟩; have hw := hw.symm; subst hw)
        | (go_at_call 145; refine (HNB.out _ hrf).mono ?_; rw [DQ.out]; rintro e w1 ⟨rfl, hw⟩; have hw := hw.symm; subst hw)
        | (have hgate := GK0.out; clear hgate; go_at_call 146; refine (HKB.out _ HZ0.out).mono ?_; rintro e wk0 ⟨rfl, hb⟩; have HZ1 := Aside0.mk (HZ0.out.trans (hb.mono HZ0.out.size)); have HZ := HZ1; have GK1 := Aside0.mk True.intro; clear hb GK0)
        | (have hgate := GK1.out; clear hgate; go_at_call 146; refine (HKL.out hv.2 _ HZ1.out).mono ?_; rintro e wk1 ⟨rfl, hb⟩; have HZ2 := Aside0.mk (HZ1.out.trans (hb.mono HZ1.out.size)); have HZ := HZ2; have GK2 := Aside0.mk True.intro; clear hb GK1))
      go_ret
      exact ⟨rfl, HZ.out⟩
  have dh : decide ((0 : Int) < (nh : Int)) = true := decide_eq_true (by omega)
  by_cases hoh : ¬ ordR t hi
  · have DH := Aside0.mk (decide_eq_false hoh)
    have hu : ¬ (0 < nh ∧ ordR t hi) := fun k => hoh k.2
    by_cases hl0 : ¬ 0 < nl
    · have dl : decide ((0 : Int) < (nl : Int)) = false := decide_eq_false (by omega)
      have hv : ¬ (0 < nl ∧ ordR t lo) := fun k => hl0 k.1
      obtain rfl : r = 0 := by rw [← HRR.out]; rw [if_neg (fun k => by rcases k.1 with k | k; exact hu k; exact hv k), if_neg (fun k => hu k.1), if_neg (fun k => hv k.1)]
      clear HRR
      have HZ0 := Aside0.mk hrf
      have HZ := HZ0
      have GK0 := Aside0.mk True.intro
      have GH := Aside0.mk True.intro
      go_enter Tryd.func125, Tryd.ntmps125
      go_wp2_with (first
        | (go_at_call 142; refine (HPL.out _ hrf).mono ?_; rintro e w1 ⟨rfl, hw⟩; have hw := hw.symm; subst hw)
        | (go_at_call 143; refine (HK.out _).mono ?_; rintro e w1 ⟨rfl, hw⟩; have hw := hw.symm; subst hw)
        | (have hgate := GH.out; clear hgate; go_at_call 144; refine (HOH.out _ hrf).mono ?_; rw [DH.out]; rintro e w1 ⟨rfl, hw⟩; have hw := hw.symm; subst hw; clear GH))
      go_ret
      exact ⟨rfl, HZ.out⟩
    have dl : decide ((0 : Int) < (nl : Int)) = true := decide_eq_true (by omega)
    by_cases hol : ¬ ordR t lo
    · have DL := Aside0.mk (decide_eq_false hol)
      have hv : ¬ (0 < nl ∧ ordR t lo) := fun k => hol k.2
      obtain rfl : r = 0 := by rw [← HRR.out]; rw [if_neg (fun k => by rcases k.1 with k | k; exact hu k; exact hv k), if_neg (fun k => hu k.1), if_neg (fun k => hv k.1)]
      clear HRR
      have HZ0 := Aside0.mk hrf
      have HZ := HZ0
      have GK0 := Aside0.mk True.intro
      have GH := Aside0.mk True.intro
      go_enter Tryd.func125, Tryd.ntmps125
      go_wp2_with (first
        | (go_at_call 142; refine (HPL.out _ hrf).mono ?_; rintro e w1 ⟨rfl, hw⟩; have hw := hw.symm; subst hw)
        | (go_at_call 143; refine (HK.out _).mono ?_; rintro e w1 ⟨rfl, hw⟩; have hw := hw.symm; subst hw)
        | (have hgate := GH.out; clear hgate; go_at_call 144; refine (HOH.out _ hrf).mono ?_; rw [DH.out]; rintro e w1 ⟨rfl, hw⟩; have hw := hw.symm; subst hw; clear GH)
        | (go_at_call 144; refine (HOL.out _ hrf).mono ?_; rw [DL.out]; rintro e w1 ⟨rfl, hw⟩; have hw := hw.symm; subst hw))
      go_ret
      exact ⟨rfl, HZ.out⟩
    · have hol' : ordR t lo := Classical.not_not.1 hol
      have DL := Aside0.mk (decide_eq_true hol')
      have hv : 0 < nl ∧ ordR t lo := ⟨by omega, hol'⟩
      by_cases hq : nanR t b
      · have DQ := Aside0.mk (decide_eq_true hq)
        obtain rfl : r = 101253168 := by rw [← HRR.out]; rw [if_pos ⟨.inr hv, hq⟩]
        clear HRR
        have HZ0 := Aside0.mk hrf
        have HZ := HZ0
        have GK0 := Aside0.mk True.intro
        have GH := Aside0.mk True.intro
        go_enter Tryd.func125, Tryd.ntmps125
        go_wp2_with (first
          | (go_at_call 142; refine (HPL.out _ hrf).mono ?_; rintro e w1 ⟨rfl, hw⟩; have hw := hw.symm; subst hw)
          | (go_at_call 143; refine (HK.out _).mono ?_; rintro e w1 ⟨rfl, hw⟩; have hw := hw.symm; subst hw)
          | (have hgate := GH.out; clear hgate; go_at_call 144; refine (HOH.out _ hrf).mono ?_; rw [DH.out]; rintro e w1 ⟨rfl, hw⟩; have hw := hw.symm; subst hw; clear GH)
          | (go_at_call 144; refine (HOL.out _ hrf).mono ?_; rw [DL.out]; rintro e w1 ⟨rfl, hw⟩; have hw := hw.symm; subst hw)
          | (go_at_call 145; refine (HNB.out _ hrf).mono ?_; rw [DQ.out]; rintro e w1 ⟨rfl, hw⟩; have hw := hw.symm; subst hw))
        go_ret
        exact ⟨rfl, HZ.out⟩
      have DQ := Aside0.mk (decide_eq_false hq)
      by_cases hlt : kb < kl
      · have dg := decide_eq_true hlt
        obtain rfl : r = 101253170 := by rw [← HRR.out]; rw [if_neg (fun k => hq k.2)]; rw [if_neg (fun k => hu k.1), if_pos ⟨hv, hlt⟩]
        clear HRR
        have HZ0 := Aside0.mk hrf
        have HZ := HZ0
        have GK0 := Aside0.mk True.intro
        have GH := Aside0.mk True.intro
        go_enter Tryd.func125, Tryd.ntmps125
        go_wp2_with (first
          | (go_at_call 142; refine (HPL.out _ hrf).mono ?_; rintro e w1 ⟨rfl, hw⟩; have hw := hw.symm; subst hw)
          | (go_at_call 143; refine (HK.out _).mono ?_; rintro e w1 ⟨rfl, hw⟩; have hw := hw.symm; subst hw)
          | (have hgate := GH.out; clear hgate; go_at_call 144; refine (HOH.out _ hrf).mono ?_; rw [DH.out]; rintro e w1 ⟨rfl, hw⟩; have hw := hw.symm; subst hw; clear GH)
          | (go_at_call 144; refine (HOL.out _ hrf).mono ?_; rw [DL.out]; rintro e w1 ⟨rfl, hw⟩; have hw := hw.symm; subst hw)
          | (go_at_call 145; refine (HNB.out _ hrf).mono ?_; rw [DQ.out]; rintro e w1 ⟨rfl, hw⟩; have hw := hw.symm; subst hw)
          | (have hgate := GK0.out; clear hgate; go_at_call 146; refine (HKB.out _ HZ0.out).mono ?_; rintro e wk0 ⟨rfl, hb⟩; have HZ1 := Aside0.mk (HZ0.out.trans (hb.mono HZ0.out.size)); have HZ := HZ1; have GK1 := Aside0.mk True.intro; clear hb GK0)
          | (have hgate := GK1.out; clear hgate; go_at_call 146; refine (HKL.out hv.2 _ HZ1.out).mono ?_; rintro e wk1 ⟨rfl, hb⟩; have HZ2 := Aside0.mk (HZ1.out.trans (hb.mono HZ1.out.size)); have HZ := HZ2; have GK2 := Aside0.mk True.intro; clear hb GK1))
        go_ret
        exact ⟨rfl, HZ.out⟩
      have dg := decide_eq_false hlt
      obtain rfl : r = 0 := by rw [← HRR.out]; rw [if_neg (fun k => hq k.2)]; rw [if_neg (fun k => hu k.1), if_neg (fun k => hlt k.2)]
      clear HRR
      have HZ0 := Aside0.mk hrf
      have HZ := HZ0
      have GK0 := Aside0.mk True.intro
      have GH := Aside0.mk True.intro
      go_enter Tryd.func125, Tryd.ntmps125
      go_wp2_with (first
        | (go_at_call 142; refine (HPL.out _ hrf).mono ?_; rintro e w1 ⟨rfl, hw⟩; have hw := hw.symm; subst hw)
        | (go_at_call 143; refine (HK.out _).mono ?_; rintro e w1 ⟨rfl, hw⟩; have hw := hw.symm; subst hw)
        | (have hgate := GH.out; clear hgate; go_at_call 144; refine (HOH.out _ hrf).mono ?_; rw [DH.out]; rintro e w1 ⟨rfl, hw⟩; have hw := hw.symm; subst hw; clear GH)
        | (go_at_call 144; refine (HOL.out _ hrf).mono ?_; rw [DL.out]; rintro e w1 ⟨rfl, hw⟩; have hw := hw.symm; subst hw)
        | (go_at_call 145; refine (HNB.out _ hrf).mono ?_; rw [DQ.out]; rintro e w1 ⟨rfl, hw⟩; have hw := hw.symm; subst hw)
        | (have hgate := GK0.out; clear hgate; go_at_call 146; refine (HKB.out _ HZ0.out).mono ?_; rintro e wk0 ⟨rfl, hb⟩; have HZ1 := Aside0.mk (HZ0.out.trans (hb.mono HZ0.out.size)); have HZ := HZ1; have GK1 := Aside0.mk True.intro; clear hb GK0)
        | (have hgate := GK1.out; clear hgate; go_at_call 146; refine (HKL.out hv.2 _ HZ1.out).mono ?_; rintro e wk1 ⟨rfl, hb⟩; have HZ2 := Aside0.mk (HZ1.out.trans (hb.mono HZ1.out.size)); have HZ := HZ2; have GK2 := Aside0.mk True.intro; clear hb GK1))
      go_ret
      exact ⟨rfl, HZ.out⟩
  · have hoh' : ordR t hi := Classical.not_not.1 hoh
    have DH := Aside0.mk (decide_eq_true hoh')
    have hu : 0 < nh ∧ ordR t hi := ⟨by omega, hoh'⟩
    by_cases hl0 : ¬ 0 < nl
    · have dl : decide ((0 : Int) < (nl : Int)) = false := decide_eq_false (by omega)
      have hv : ¬ (0 < nl ∧ ordR t lo) := fun k => hl0 k.1
      by_cases hq : nanR t b
      · have DQ := Aside0.mk (decide_eq_true hq)
        obtain rfl : r = 101253168 := by rw [← HRR.out]; rw [if_pos ⟨.inl hu, hq⟩]
        clear HRR
        have HZ0 := Aside0.mk hrf
        have HZ := HZ0
        have GK0 := Aside0.mk True.intro
        have GH := Aside0.mk True.intro
        go_enter Tryd.func125, Tryd.ntmps125
        go_wp2_with (first
          | (go_at_call 142; refine (HPL.out _ hrf).mono ?_; rintro e w1 ⟨rfl, hw⟩; have hw := hw.symm; subst hw)
          | (go_at_call 143; refine (HK.out _).mono ?_; rintro e w1 ⟨rfl, hw⟩; have hw := hw.symm; subst hw)
          | (have hgate := GH.out; clear hgate; go_at_call 144; refine (HOH.out _ hrf).mono ?_; rw [DH.out]; rintro e w1 ⟨rfl, hw⟩; have hw := hw.symm; subst hw; clear GH)
          | (go_at_call 145; refine (HNB.out _ hrf).mono ?_; rw [DQ.out]; rintro e w1 ⟨rfl, hw⟩; have hw := hw.symm; subst hw))
        go_ret
        exact ⟨rfl, HZ.out⟩
      have DQ := Aside0.mk (decide_eq_false hq)
      by_cases hgt : kh < kb
      · have dg := decide_eq_true hgt
        obtain rfl : r = 101253169 := by rw [← HRR.out]; rw [if_neg (fun k => hq k.2)]; rw [if_pos ⟨hu, hgt⟩]
        clear HRR
        have HZ0 := Aside0.mk hrf
        have HZ := HZ0
        have GK0 := Aside0.mk True.intro
        have GH := Aside0.mk True.intro
        go_enter Tryd.func125, Tryd.ntmps125
        go_wp2_with (first
          | (go_at_call 142; refine (HPL.out _ hrf).mono ?_; rintro e w1 ⟨rfl, hw⟩; have hw := hw.symm; subst hw)
          | (go_at_call 143; refine (HK.out _).mono ?_; rintro e w1 ⟨rfl, hw⟩; have hw := hw.symm; subst hw)
          | (have hgate := GH.out; clear hgate; go_at_call 144; refine (HOH.out _ hrf).mono ?_; rw [DH.out]; rintro e w1 ⟨rfl, hw⟩; have hw := hw.symm; subst hw; clear GH)
          | (go_at_call 145; refine (HNB.out _ hrf).mono ?_; rw [DQ.out]; rintro e w1 ⟨rfl, hw⟩; have hw := hw.symm; subst hw)
          | (have hgate := GK0.out; clear hgate; go_at_call 146; refine (HKB.out _ HZ0.out).mono ?_; rintro e wk0 ⟨rfl, hb⟩; have HZ1 := Aside0.mk (HZ0.out.trans (hb.mono HZ0.out.size)); have HZ := HZ1; have GK1 := Aside0.mk True.intro; clear hb GK0)
          | (have hgate := GK1.out; clear hgate; go_at_call 146; refine (HKH.out hu.2 _ HZ1.out).mono ?_; rintro e wk1 ⟨rfl, hb⟩; have HZ2 := Aside0.mk (HZ1.out.trans (hb.mono HZ1.out.size)); have HZ := HZ2; have GK2 := Aside0.mk True.intro; clear hb GK1))
        go_ret
        exact ⟨rfl, HZ.out⟩
      have dg := decide_eq_false hgt
      obtain rfl : r = 0 := by rw [← HRR.out]; rw [if_neg (fun k => hq k.2)]; rw [if_neg (fun k => hgt k.2), if_neg (fun k => hv k.1)]
      clear HRR
      have HZ0 := Aside0.mk hrf
      have HZ := HZ0
      have GK0 := Aside0.mk True.intro
      have GH := Aside0.mk True.intro
      go_enter Tryd.func125, Tryd.ntmps125
      go_wp2_with (first
        | (go_at_call 142; refine (HPL.out _ hrf).mono ?_; rintro e w1 ⟨rfl, hw⟩; have hw := hw.symm; subst hw)
        | (go_at_call 143; refine (HK.out _).mono ?_; rintro e w1 ⟨rfl, hw⟩; have hw := hw.symm; subst hw)
        | (have hgate := GH.out; clear hgate; go_at_call 144; refine (HOH.out _ hrf).mono ?_; rw [DH.out]; rintro e w1 ⟨rfl, hw⟩; have hw := hw.symm; subst hw; clear GH)
        | (go_at_call 145; refine (HNB.out _ hrf).mono ?_; rw [DQ.out]; rintro e w1 ⟨rfl, hw⟩; have hw := hw.symm; subst hw)
        | (have hgate := GK0.out; clear hgate; go_at_call 146; refine (HKB.out _ HZ0.out).mono ?_; rintro e wk0 ⟨rfl, hb⟩; have HZ1 := Aside0.mk (HZ0.out.trans (hb.mono HZ0.out.size)); have HZ := HZ1; have GK1 := Aside0.mk True.intro; clear hb GK0)
        | (have hgate := GK1.out; clear hgate; go_at_call 146; refine (HKH.out hu.2 _ HZ1.out).mono ?_; rintro e wk1 ⟨rfl, hb⟩; have HZ2 := Aside0.mk (HZ1.out.trans (hb.mono HZ1.out.size)); have HZ := HZ2; have GK2 := Aside0.mk True.intro; clear hb GK1))
      go_ret
      exact ⟨rfl, HZ.out⟩
    have dl : decide ((0 : Int) < (nl : Int)) = true := decide_eq_true (by omega)
    by_cases hol : ¬ ordR t lo
    · have DL := Aside0.mk (decide_eq_false hol)
      have hv : ¬ (0 < nl ∧ ordR t lo) := fun k => hol k.2
      by_cases hq : nanR t b
      · have DQ := Aside0.mk (decide_eq_true hq)
        obtain rfl : r = 101253168 := by rw [← HRR.out]; rw [if_pos ⟨.inl hu, hq⟩]
        clear HRR
        have HZ0 := Aside0.mk hrf
        have HZ := HZ0
        have GK0 := Aside0.mk True.intro
        have GH := Aside0.mk True.intro
        go_enter Tryd.func125, Tryd.ntmps125
        go_wp2_with (first
          | (go_at_call 142; refine (HPL.out _ hrf).mono ?_; rintro e w1 ⟨rfl, hw⟩; have hw := hw.symm; subst hw)
          | (go_at_call 143; refine (HK.out _).mono ?_; rintro e w1 ⟨rfl, hw⟩; have hw := hw.symm; subst hw)
          | (have hgate := GH.out; clear hgate; go_at_call 144; refine (HOH.out _ hrf).mono ?_; rw [DH.out]; rintro e w1 ⟨rfl, hw⟩; have hw := hw.symm; subst hw; clear GH)
          | (go_at_call 144; refine (HOL.out _ hrf).mono ?_; rw [DL.out]; rintro e w1 ⟨rfl, hw⟩; have hw := hw.symm; subst hw)
          | (go_at_call 145; refine (HNB.out _ hrf).mono ?_; rw [DQ.out]; rintro e w1 ⟨rfl, hw⟩; have hw := hw.symm; subst hw))
        go_ret
        exact ⟨rfl, HZ.out⟩
      have DQ := Aside0.mk (decide_eq_false hq)
      by_cases hgt : kh < kb
      · have dg := decide_eq_true hgt
        obtain rfl : r = 101253169 := by rw [← HRR.out]; rw [if_neg (fun k => hq k.2)]; rw [if_pos ⟨hu, hgt⟩]
        clear HRR
        have HZ0 := Aside0.mk hrf
        have HZ := HZ0
        have GK0 := Aside0.mk True.intro
        have GH := Aside0.mk True.intro
        go_enter Tryd.func125, Tryd.ntmps125
        go_wp2_with (first
          | (go_at_call 142; refine (HPL.out _ hrf).mono ?_; rintro e w1 ⟨rfl, hw⟩; have hw := hw.symm; subst hw)
          | (go_at_call 143; refine (HK.out _).mono ?_; rintro e w1 ⟨rfl, hw⟩; have hw := hw.symm; subst hw)
          | (have hgate := GH.out; clear hgate; go_at_call 144; refine (HOH.out _ hrf).mono ?_; rw [DH.out]; rintro e w1 ⟨rfl, hw⟩; have hw := hw.symm; subst hw; clear GH)
          | (go_at_call 144; refine (HOL.out _ hrf).mono ?_; rw [DL.out]; rintro e w1 ⟨rfl, hw⟩; have hw := hw.symm; subst hw)
          | (go_at_call 145; refine (HNB.out _ hrf).mono ?_; rw [DQ.out]; rintro e w1 ⟨rfl, hw⟩; have hw := hw.symm; subst hw)
          | (have hgate := GK0.out; clear hgate; go_at_call 146; refine (HKB.out _ HZ0.out).mono ?_; rintro e wk0 ⟨rfl, hb⟩; have HZ1 := Aside0.mk (HZ0.out.trans (hb.mono HZ0.out.size)); have HZ := HZ1; have GK1 := Aside0.mk True.intro; clear hb GK0)
          | (have hgate := GK1.out; clear hgate; go_at_call 146; refine (HKH.out hu.2 _ HZ1.out).mono ?_; rintro e wk1 ⟨rfl, hb⟩; have HZ2 := Aside0.mk (HZ1.out.trans (hb.mono HZ1.out.size)); have HZ := HZ2; have GK2 := Aside0.mk True.intro; clear hb GK1))
        go_ret
        exact ⟨rfl, HZ.out⟩
      have dg := decide_eq_false hgt
      obtain rfl : r = 0 := by rw [← HRR.out]; rw [if_neg (fun k => hq k.2)]; rw [if_neg (fun k => hgt k.2), if_neg (fun k => hv k.1)]
      clear HRR
      have HZ0 := Aside0.mk hrf
      have HZ := HZ0
      have GK0 := Aside0.mk True.intro
      have GH := Aside0.mk True.intro
      go_enter Tryd.func125, Tryd.ntmps125
      go_wp2_with (first
        | (go_at_call 142; refine (HPL.out _ hrf).mono ?_; rintro e w1 ⟨rfl, hw⟩; have hw := hw.symm; subst hw)
        | (go_at_call 143; refine (HK.out _).mono ?_; rintro e w1 ⟨rfl, hw⟩; have hw := hw.symm; subst hw)
        | (have hgate := GH.out; clear hgate; go_at_call 144; refine (HOH.out _ hrf).mono ?_; rw [DH.out]; rintro e w1 ⟨rfl, hw⟩; have hw := hw.symm; subst hw; clear GH)
        | (go_at_call 144; refine (HOL.out _ hrf).mono ?_; rw [DL.out]; rintro e w1 ⟨rfl, hw⟩; have hw := hw.symm; subst hw)
        | (go_at_call 145; refine (HNB.out _ hrf).mono ?_; rw [DQ.out]; rintro e w1 ⟨rfl, hw⟩; have hw := hw.symm; subst hw)
        | (have hgate := GK0.out; clear hgate; go_at_call 146; refine (HKB.out _ HZ0.out).mono ?_; rintro e wk0 ⟨rfl, hb⟩; have HZ1 := Aside0.mk (HZ0.out.trans (hb.mono HZ0.out.size)); have HZ := HZ1; have GK1 := Aside0.mk True.intro; clear hb GK0)
        | (have hgate := GK1.out; clear hgate; go_at_call 146; refine (HKH.out hu.2 _ HZ1.out).mono ?_; rintro e wk1 ⟨rfl, hb⟩; have HZ2 := Aside0.mk (HZ1.out.trans (hb.mono HZ1.out.size)); have HZ := HZ2; have GK2 := Aside0.mk True.intro; clear hb GK1))
      go_ret
      exact ⟨rfl, HZ.out⟩
    · have hol' : ordR t lo := Classical.not_not.1 hol
      have DL := Aside0.mk (decide_eq_true hol')
      have hv : 0 < nl ∧ ordR t lo := ⟨by omega, hol'⟩
      by_cases hq : nanR t b
      · have DQ := Aside0.mk (decide_eq_true hq)
        obtain rfl : r = 101253168 := by rw [← HRR.out]; rw [if_pos ⟨.inl hu, hq⟩]
        clear HRR
        have HZ0 := Aside0.mk hrf
        have HZ := HZ0
        have GK0 := Aside0.mk True.intro
        have GH := Aside0.mk True.intro
        go_enter Tryd.func125, Tryd.ntmps125
        go_wp2_with (first
          | (go_at_call 142; refine (HPL.out _ hrf).mono ?_; rintro e w1 ⟨rfl, hw⟩; have hw := hw.symm; subst hw)
          | (go_at_call 143; refine (HK.out _).mono ?_; rintro e w1 ⟨rfl, hw⟩; have hw := hw.symm; subst hw)
          | (have hgate := GH.out; clear hgate; go_at_call 144; refine (HOH.out _ hrf).mono ?_; rw [DH.out]; rintro e w1 ⟨rfl, hw⟩; have hw := hw.symm; subst hw; clear GH)
          | (go_at_call 144; refine (HOL.out _ hrf).mono ?_; rw [DL.out]; rintro e w1 ⟨rfl, hw⟩; have hw := hw.symm; subst hw)
          | (go_at_call 145; refine (HNB.out _ hrf).mono ?_; rw [DQ.out]; rintro e w1 ⟨rfl, hw⟩; have hw := hw.symm; subst hw))
        go_ret
        exact ⟨rfl, HZ.out⟩
      have DQ := Aside0.mk (decide_eq_false hq)
      by_cases hgt : kh < kb
      · have dg := decide_eq_true hgt
        obtain rfl : r = 101253169 := by rw [← HRR.out]; rw [if_neg (fun k => hq k.2)]; rw [if_pos ⟨hu, hgt⟩]
        clear HRR
        have HZ0 := Aside0.mk hrf
        have HZ := HZ0
        have GK0 := Aside0.mk True.intro
        have GH := Aside0.mk True.intro
        go_enter Tryd.func125, Tryd.ntmps125
        go_wp2_with (first
          | (go_at_call 142; refine (HPL.out _ hrf).mono ?_; rintro e w1 ⟨rfl, hw⟩; have hw := hw.symm; subst hw)
          | (go_at_call 143; refine (HK.out _).mono ?_; rintro e w1 ⟨rfl, hw⟩; have hw := hw.symm; subst hw)
          | (have hgate := GH.out; clear hgate; go_at_call 144; refine (HOH.out _ hrf).mono ?_; rw [DH.out]; rintro e w1 ⟨rfl, hw⟩; have hw := hw.symm; subst hw; clear GH)
          | (go_at_call 144; refine (HOL.out _ hrf).mono ?_; rw [DL.out]; rintro e w1 ⟨rfl, hw⟩; have hw := hw.symm; subst hw)
          | (go_at_call 145; refine (HNB.out _ hrf).mono ?_; rw [DQ.out]; rintro e w1 ⟨rfl, hw⟩; have hw := hw.symm; subst hw)
          | (have hgate := GK0.out; clear hgate; go_at_call 146; refine (HKB.out _ HZ0.out).mono ?_; rintro e wk0 ⟨rfl, hb⟩; have HZ1 := Aside0.mk (HZ0.out.trans (hb.mono HZ0.out.size)); have HZ := HZ1; have GK1 := Aside0.mk True.intro; clear hb GK0)
          | (have hgate := GK1.out; clear hgate; go_at_call 146; refine (HKH.out hu.2 _ HZ1.out).mono ?_; rintro e wk1 ⟨rfl, hb⟩; have HZ2 := Aside0.mk (HZ1.out.trans (hb.mono HZ1.out.size)); have HZ := HZ2; have GK2 := Aside0.mk True.intro; clear hb GK1))
        go_ret
        exact ⟨rfl, HZ.out⟩
      have dg := decide_eq_false hgt
      by_cases hlt : kb < kl
      · have dg2 := decide_eq_true hlt
        obtain rfl : r = 101253170 := by rw [← HRR.out]; rw [if_neg (fun k => hq k.2)]; rw [if_neg (fun k => hgt k.2), if_pos ⟨hv, hlt⟩]
        clear HRR
        have HZ0 := Aside0.mk hrf
        have HZ := HZ0
        have GK0 := Aside0.mk True.intro
        have GH := Aside0.mk True.intro
        go_enter Tryd.func125, Tryd.ntmps125
        go_wp2_with (first
          | (go_at_call 142; refine (HPL.out _ hrf).mono ?_; rintro e w1 ⟨rfl, hw⟩; have hw := hw.symm; subst hw)
          | (go_at_call 143; refine (HK.out _).mono ?_; rintro e w1 ⟨rfl, hw⟩; have hw := hw.symm; subst hw)
          | (have hgate := GH.out; clear hgate; go_at_call 144; refine (HOH.out _ hrf).mono ?_; rw [DH.out]; rintro e w1 ⟨rfl, hw⟩; have hw := hw.symm; subst hw; clear GH)
          | (go_at_call 144; refine (HOL.out _ hrf).mono ?_; rw [DL.out]; rintro e w1 ⟨rfl, hw⟩; have hw := hw.symm; subst hw)
          | (go_at_call 145; refine (HNB.out _ hrf).mono ?_; rw [DQ.out]; rintro e w1 ⟨rfl, hw⟩; have hw := hw.symm; subst hw)
          | (have hgate := GK0.out; clear hgate; go_at_call 146; refine (HKB.out _ HZ0.out).mono ?_; rintro e wk0 ⟨rfl, hb⟩; have HZ1 := Aside0.mk (HZ0.out.trans (hb.mono HZ0.out.size)); have HZ := HZ1; have GK1 := Aside0.mk True.intro; clear hb GK0)
          | (have hgate := GK1.out; clear hgate; go_at_call 146; refine (HKH.out hu.2 _ HZ1.out).mono ?_; rintro e wk1 ⟨rfl, hb⟩; have HZ2 := Aside0.mk (HZ1.out.trans (hb.mono HZ1.out.size)); have HZ := HZ2; have GK2 := Aside0.mk True.intro; clear hb GK1)
          | (have hgate := GK2.out; clear hgate; go_at_call 146; refine (HKB.out _ HZ2.out).mono ?_; rintro e wk2 ⟨rfl, hb⟩; have HZ3 := Aside0.mk (HZ2.out.trans (hb.mono HZ2.out.size)); have HZ := HZ3; have GK3 := Aside0.mk True.intro; clear hb GK2)
          | (have hgate := GK3.out; clear hgate; go_at_call 146; refine (HKL.out hv.2 _ HZ3.out).mono ?_; rintro e wk3 ⟨rfl, hb⟩; have HZ4 := Aside0.mk (HZ3.out.trans (hb.mono HZ3.out.size)); have HZ := HZ4; have GK4 := Aside0.mk True.intro; clear hb GK3))
        go_ret
        exact ⟨rfl, HZ.out⟩
      have dg2 := decide_eq_false hlt
      obtain rfl : r = 0 := by rw [← HRR.out]; rw [if_neg (fun k => hq k.2)]; rw [if_neg (fun k => hgt k.2), if_neg (fun k => hlt k.2)]
      clear HRR
      have HZ0 := Aside0.mk hrf
      have HZ := HZ0
      have GK0 := Aside0.mk True.intro
      have GH := Aside0.mk True.intro
      go_enter Tryd.func125, Tryd.ntmps125
      go_wp2_with (first
        | (go_at_call 142; refine (HPL.out _ hrf).mono ?_; rintro e w1 ⟨rfl, hw⟩; have hw := hw.symm; subst hw)
        | (go_at_call 143; refine (HK.out _).mono ?_; rintro e w1 ⟨rfl, hw⟩; have hw := hw.symm; subst hw)
        | (have hgate := GH.out; clear hgate; go_at_call 144; refine (HOH.out _ hrf).mono ?_; rw [DH.out]; rintro e w1 ⟨rfl, hw⟩; have hw := hw.symm; subst hw; clear GH)
        | (go_at_call 144; refine (HOL.out _ hrf).mono ?_; rw [DL.out]; rintro e w1 ⟨rfl, hw⟩; have hw := hw.symm; subst hw)
        | (go_at_call 145; refine (HNB.out _ hrf).mono ?_; rw [DQ.out]; rintro e w1 ⟨rfl, hw⟩; have hw := hw.symm; subst hw)
        | (have hgate := GK0.out; clear hgate; go_at_call 146; refine (HKB.out _ HZ0.out).mono ?_; rintro e wk0 ⟨rfl, hb⟩; have HZ1 := Aside0.mk (HZ0.out.trans (hb.mono HZ0.out.size)); have HZ := HZ1; have GK1 := Aside0.mk True.intro; clear hb GK0)
        | (have hgate := GK1.out; clear hgate; go_at_call 146; refine (HKH.out hu.2 _ HZ1.out).mono ?_; rintro e wk1 ⟨rfl, hb⟩; have HZ2 := Aside0.mk (HZ1.out.trans (hb.mono HZ1.out.size)); have HZ := HZ2; have GK2 := Aside0.mk True.intro; clear hb GK1)
        | (have hgate := GK2.out; clear hgate; go_at_call 146; refine (HKB.out _ HZ2.out).mono ?_; rintro e wk2 ⟨rfl, hb⟩; have HZ3 := Aside0.mk (HZ2.out.trans (hb.mono HZ2.out.size)); have HZ := HZ3; have GK3 := Aside0.mk True.intro; clear hb GK2)
        | (have hgate := GK3.out; clear hgate; go_at_call 146; refine (HKL.out hv.2 _ HZ3.out).mono ?_; rintro e wk3 ⟨rfl, hb⟩; have HZ4 := Aside0.mk (HZ3.out.trans (hb.mono HZ3.out.size)); have HZ := HZ4; have GK4 := Aside0.mk True.intro; clear hb GK3))
      go_ret
      exact ⟨rfl, HZ.out⟩
end Go.Proofs.YtokebpeplopjhaaDoor.Mp
namespace Go.Proofs.YtokebpeplopjhaaDoor.Mp
open Go.RowKit Go.Shelf Go.Proofs.YtokebpeplopjhaaDoor.Rng Go.Proofs.YtokebpeplopjhaaDoorW.PrintWords Go.Proofs.YtokebpeplopjhaaDoorW.PrintMore Go.Proofs.YtokebpeplopjhaaDoorW.PrintLast

/-- A Map as a value. -/
abbrev mpV (i s b : Int) : Value := .agg #[.int .u16 i, .int .u8 s, .int .i64 b]
set_option maxRecDepth 100000 in
set_option maxHeartbeats 1000000 in
theorem fits_any (i s b t : Int) (ht : 0 ≤ t ∧ t < 256) (w : World) (h : Tbl w) :
    Calls Tryd.prog 113 #[mpV i s b, .int .u8 t] w fun e w' => e = .returned (.bool (decide (fitsC t b))) ∧ Below w.heap.size w w' := by
  have hb0 : Below w.heap.size w (w.alloc (.cells #[.int .u16 i, .int .u8 s, .int .i64 b] 48)) := below_alloc (Below.refl _ _) _
  have HZ := Aside0.mk (size_any t ht _ (h.below hb0))
  have hsz := siz_cases t
  have hbl := blk_new w (.cells #[.int .u16 i, .int .u8 s, .int .i64 b] 48)
  have HBL := Aside0.mk hbl
  clear hbl h
  have hr : ∀ r : Bool, (r = true ↔ fitsC t b) → decide (fitsC t b) = r := by
    intro r h
    by_cases hf : fitsC t b
    · rw [decide_eq_true hf, h.2 hf]
    · rw [decide_eq_false hf]
      cases r
      · rfl
      · exact absurd (h.1 rfl) hf
  by_cases hz : 0 < siz t
  · rw [decide_eq_true hz] at HZ
    have hf : fitsC t b ↔ (b = 8 * siz t ∨ (t = 1 ∧ b = 1)) := by unfold fitsC; simp [hz]
    replace hr := fun (r : Bool) (h : r = true ↔ (b = 8 * siz t ∨ (t = 1 ∧ b = 1))) => hr r (h.trans hf.symm)
    clear hf
    obtain ⟨z, hze⟩ : ∃ z, siz t = z := ⟨_, rfl⟩
    simp only [hze] at HZ hr hz hsz
    clear hze
    by_cases h1 : b = 8 * z
    · rw [hr true (by simp [h1])]
      subst h1
      go_enter Tryd.func113, Tryd.ntmps113
      go_wp2_with (go_at_call 129; refine HZ.out.mono ?_; rintro e w1 ⟨rfl, hb⟩; have HB := Aside0.mk hb; have hc2 := pw_cell_below hb (blk_cell HBL.out 2); clear hb)
      go_ret
      exact ⟨rfl, hb0.trans (HB.out.mono (by simp))⟩
    have h1b : (b == 8 * z) = false := by simpa using h1
    by_cases h2 : t = 1
    · subst h2
      by_cases h3 : b = 1
      · rw [hr true (by simp [h3])]
        subst h3
        go_enter Tryd.func113, Tryd.ntmps113
        go_wp2_with (go_at_call 129; refine HZ.out.mono ?_; rintro e w1 ⟨rfl, hb⟩; have HB := Aside0.mk hb; have hc2 := pw_cell_below hb (blk_cell HBL.out 2); clear hb)
        go_ret
        exact ⟨rfl, hb0.trans (HB.out.mono (by simp))⟩
      · rw [hr false (by simp [h1, h3])]
        have h3b : (b == 1) = false := by simpa using h3
        go_enter Tryd.func113, Tryd.ntmps113
        go_wp2_with (go_at_call 129; refine HZ.out.mono ?_; rintro e w1 ⟨rfl, hb⟩; have HB := Aside0.mk hb; have hc2 := pw_cell_below hb (blk_cell HBL.out 2); clear hb)
        go_ret
        exact ⟨rfl, hb0.trans (HB.out.mono (by simp))⟩
    · rw [hr false (by simp [h1, h2])]
      have h2b : (t == 1) = false := by simpa using h2
      go_enter Tryd.func113, Tryd.ntmps113
      go_wp2_with (go_at_call 129; refine HZ.out.mono ?_; rintro e w1 ⟨rfl, hb⟩; have HB := Aside0.mk hb; have hc2 := pw_cell_below hb (blk_cell HBL.out 2); clear hb)
      go_ret
      exact ⟨rfl, hb0.trans (HB.out.mono (by simp))⟩
  · rw [decide_eq_false hz] at HZ
    rw [hr false (by unfold fitsC; simp [hz])]
    go_enter Tryd.func113, Tryd.ntmps113
    go_wp2_with (go_at_call 129; refine HZ.out.mono ?_; rintro e w1 ⟨rfl, hb⟩; have HB := Aside0.mk hb; have hc2 := pw_cell_below hb (blk_cell HBL.out 2); clear hb)
    go_ret
    exact ⟨rfl, hb0.trans (HB.out.mono (by simp))⟩
/-- Of a Map's four answers: is it a gap? -/
theorem gap_iff (i s b : Int) : gapC ⟨i, s, b⟩ ↔ i < 256 ∧ s = 0 ∧ fitsC i b := Iff.rfl
set_option maxRecDepth 100000 in
set_option maxHeartbeats 1000000 in
theorem gap_any (i s b : Int) (hi : 0 ≤ i ∧ i < 65536) (w : World) (h : Tbl w) :
    Calls Tryd.prog 80 #[mpV i s b] w fun e w' => e = .returned (.bool (decide (gapC ⟨i, s, b⟩))) ∧ Below w.heap.size w w' := by
  have hb0 : Below w.heap.size w ((w.alloc (.cells #[.int .u16 i, .int .u8 s, .int .i64 b] 48)).alloc (.cells #[.int .u16 i, .int .u8 s] 33)) := (below_alloc (Below.refl _ _) _).alloc (by simp) _
  have HT := Aside0.mk (h.below hb0)
  clear h
  by_cases h1 : i < 256
  · by_cases h2 : s = 0
    · subst h2
      have HF := Aside0.mk (fits_any i 0 b i ⟨hi.1, h1⟩ _ HT.out)
      have e : decide (gapC ⟨i, 0, b⟩) = decide (fitsC i b) := by
        congr 1
        simp [gap_iff, h1]
      rw [e]
      generalize decide (fitsC i b) = r at HF ⊢
      go_enter Tryd.func80, Tryd.ntmps80
      go_wp2_with (go_at_call 113; refine HF.out.mono ?_; rintro e w1 ⟨rfl, hb⟩; have HB := Aside0.mk hb; clear hb)
      go_ret
      exact ⟨rfl, hb0.trans (HB.out.mono hb0.size)⟩
    · have h2b : (s == 0) = false := by simpa using h2
      rw [decide_eq_false (fun e => h2 e.2.1)]
      go_enter Tryd.func80, Tryd.ntmps80
      go_wp2
      go_ret
      exact ⟨rfl, hb0⟩
  · rw [decide_eq_false (fun e => h1 e.1)]
    have h1b : decide (i < 256) = false := by simpa using h1
    go_enter Tryd.func80, Tryd.ntmps80
    go_wp2
    go_ret
    exact ⟨rfl, hb0⟩
end Go.Proofs.YtokebpeplopjhaaDoor.Mp
