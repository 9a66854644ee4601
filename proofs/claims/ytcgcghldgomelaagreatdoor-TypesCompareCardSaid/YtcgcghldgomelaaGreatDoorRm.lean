/- The document's functions of layer 1, walked: number, plain, nan, ordered. -/
import Derived.Test.YtcgcghldgomelaaGreatDoorRl
import Derived.Test.YtcgcghldgomelaaGreatDoorTch
import Derived.Deep.RegionHeld3
namespace Go.Proofs.YtcgcghldgomelaaGreatDoor.Mp
open Go.RowKit Go.Shelf Go.Proofs.YtcgcghldgomelaaGreatDoor.Rng Go.Proofs.YtcgcghldgomelaaGreatDoorW.PrintWords Go.Proofs.YtcgcghldgomelaaGreatDoorW.PrintMore Go.Proofs.YtcgcghldgomelaaGreatDoorW.PrintLast

theorem Arg.take {w : World} {A : Option Addr} {c : Nat} {b : List Int} (h : Arg w A c b) (n : Nat) (hn : n ≤ c) : Arg w A c (b.take n) :=
  ⟨⟨by have := h.rd.1; rw [List.length_take]; omega, fun h0 => by
    rw [List.length_take] at h0
    obtain ⟨ad, e, hc⟩ := h.rd.2 (by omega)
    refine ⟨ad, e, fun j hj => ?_⟩
    rw [List.length_take] at hj
    rw [List.getElem?_take, if_pos (by omega)]
    exact hc j (by omega)⟩, fun x hx => h.byt x (List.mem_of_mem_take hx), by rw [List.length_take]; have := h.le; omega, h.cap⟩
theorem num_step (zs : List Int) (hb : Byt zs) (hl : zs.length ≤ 8) (i : Nat) (hi : i < zs.length) : bits .or .u64 (IntKind.u64.wrap (num (zs.drop (i + 1)) * 256)) (IntKind.u64.wrap (zs[i]?.getD 0)) = num (zs.drop i) := by
  have hs := Num.stepU_num zs hb hl (zs.length - (i + 1)) (by omega)
  rw [show zs.length - (zs.length - (i + 1)) = i + 1 by omega, show zs.length - 1 - (zs.length - (i + 1)) = i by omega, show zs.length - (zs.length - (i + 1) + 1) = i by omega] at hs
  exact hs
set_option maxRecDepth 100000 in
set_option maxHeartbeats 1000000 in
theorem rnumber_any (A : Option Addr) (c : Nat) (zs : List Int) (w : World) (h : Arg w A c zs) (hl : zs.length ≤ 8) :
    Calls Tryz.prog 58 #[.slice A zs.length c] w fun e w' => e = .returned (.int .u64 (num zs)) ∧ w' = w := by
  have HA := Aside0.mk h
  obtain ⟨n, hn⟩ : ∃ n, zs.length = n := ⟨_, rfl⟩
  have HN := Aside0.mk hn
  obtain ⟨r, hr⟩ : ∃ r, num zs = r := ⟨_, rfl⟩
  have HR := Aside0.mk hr
  rw [hn] at hl ⊢
  rw [hr]
  clear h hn hr
  go_enter Tryz.func58, Tryz.ntmps58
  go_wp2
  go_loopw [3, 4] (fun nv iv wr => ∃ j : Nat, j ≤ n ∧ iv = .int .i64 ((j : Int) - 1) ∧ nv = .int .u64 (num (zs.drop j)) ∧ wr = w) (fun _ iv _ => (intOf iv + 1).toNat)
  case atStart => exact ⟨n, Nat.le_refl _, by congr 1, by rw [← HN.out, List.drop_length]; rfl, by trivial⟩
  case round =>
    obtain ⟨j, hj, rfl, rfl, rfl⟩ := hrel
    cases j with
    | zero =>
      have e0 : num (zs.drop 0) = r := HR.out
      rw [e0]
      have hd : ((0 : Nat) : Int) - 1 = -1 := by omega
      rw [hd]
      go_wp2
      go_ret
      exact ⟨rfl, rfl⟩
    | succ i =>
      have hd : ((i + 1 : Nat) : Int) - 1 = (i : Int) := by omega
      rw [hd]
      have hil : i < zs.length := by rw [HN.out]; omega
      obtain ⟨ad, rfl, hc⟩ := HA.out.rd.at_ i hil
      have hst := num_step zs HA.out.byt (by rw [HN.out]; exact hl) i hil
      generalize num (zs.drop (i + 1)) = N at hst ⊢
      generalize zs[i]?.getD 0 = X at hst hc
      have hin : i < n := by omega
      clear hd hil
      go_wp2
      go_roundw
      case rel => exact ⟨i, by omega, by congr 1, by rfl, by trivial⟩
      case measure => simp [intOf]
set_option maxRecDepth 100000 in
set_option maxHeartbeats 2000000 in
theorem rplain_any (t : Int) (A : Option Addr) (c : Nat) (b : List Int) (w : World) (h : Arg w A c b) :
    Calls Tryz.prog 37 #[.int .u8 t, .slice A b.length c] w fun e w' => e = .returned (.int .u32 (plainC t b)) ∧ w' = w := by
  have HA := Aside0.mk h
  have hcap := h.cap
  have hle := h.le
  obtain ⟨e1, e5, -, -, -, -⟩ := letR_eq (knd t) (knd_cases t)
  have hs := siz_of t
  have h8 := siz_cases t
  have hp := siz_pos (t := t)
  obtain ⟨n, hn⟩ : ∃ n, b.length = n := ⟨_, rfl⟩
  have HN := Aside0.mk hn
  have hpl : plainC t b = if knd t = 0 then 0x08000000 else if 4096 < (n : Int) ∨ (knd t ≠ 6 ∧ siz t < n) then 0x06070012 else if (n : Int) < siz t then 0x06070013 else if (knd t = 1 ∧ (1 : Int) < b[0]?.getD 0) ∨ (knd t = 5 ∧ 86400000 ≤ num (b.take 4)) then 0x06090030 else 0 := by unfold plainC; rw [hn]
  rw [hn] at hle ⊢
  have HS := Aside0.mk (rsize_any t w)
  have HR := Aside0.mk (rright_any t w)
  have HK := Aside0.mk (rkind_any t w)
  clear h hn
  by_cases h0 : knd t = 0
  · rw [if_pos h0] at hpl
    rw [hpl]
    have d0 : decide (knd t ≠ 0) = false := by simp [h0]
    rw [d0] at HR
    clear hpl hp hs h8
    go_enter Tryz.func37, Tryz.ntmps37
    go_wp2_with (first
      | (go_at_call 24; refine HS.out.mono ?_; rintro e w1 ⟨rfl, rfl⟩)
      | (go_at_call 34; refine HR.out.mono ?_; rintro e w1 ⟨rfl, rfl⟩))
    go_ret
    exact ⟨rfl, rfl⟩
  rw [if_neg h0] at hpl
  have d0 : decide (knd t ≠ 0) = true := by simp [h0]
  rw [d0] at HR
  have hd4 : b.length ≤ 8 → True := fun _ => trivial
  obtain ⟨fx, hfx⟩ : ∃ fx, decide (0 < siz t) = fx := ⟨_, rfl⟩
  rw [hfx] at HS
  have hfx' : (fx = true ↔ knd t ≠ 6) := by
    rw [← hfx, decide_eq_true_iff, hp]
    exact ⟨fun k => k.2, fun k => ⟨h0, k⟩⟩
  obtain ⟨s, hsz⟩ : ∃ s, siz t = s := ⟨_, rfl⟩
  rw [hsz] at HS hpl hs h8
  obtain ⟨L, hL⟩ : ∃ L, letR (knd t) = L := ⟨_, rfl⟩
  rw [hL] at HK e1 e5
  have HPL := Aside0.mk hpl
  obtain ⟨r, hr⟩ : ∃ r, plainC t b = r := ⟨_, rfl⟩
  rw [hr] at HPL ⊢
  have HH := Aside0.mk (And.intro hfx' (And.intro hs (And.intro e1 e5)))
  have HL := Aside0.mk hL
  clear hpl hfx hfx' hsz hL hp hs hr e1 e5
  have hsr : 0 ≤ s ∧ s ≤ 8 := by omega
  clear h8
  have hn0 : (0 : Int) ≤ (n : Int) := by omega
  cases fx with
  | false =>
    have h6 : knd t = 6 := by
      have h1 := HH.out.1
      by_cases k : knd t = 6
      · exact k
      · exact absurd (h1.2 k) (by simp)
    have hL : L = 115 := by
      rw [h6] at HL
      exact HL.out.symm
    have hs0 : s = 0 := HH.out.2.1.2.2.2.2.2.1 h6
    subst hL hs0
    by_cases hbig : 4096 < (n : Int)
    · obtain rfl : r = 0x06070012 := by rw [HPL.out, if_pos (.inl hbig)]
      go_enter Tryz.func37, Tryz.ntmps37
      go_wp2_with (first
        | (go_at_call 24; refine HS.out.mono ?_; rintro e w1 ⟨rfl, rfl⟩)
        | (go_at_call 34; refine HR.out.mono ?_; rintro e w1 ⟨rfl, rfl⟩)
        | (go_at_call 25; refine HK.out.mono ?_; rintro e w1 ⟨rfl, rfl⟩))
      go_ret
      exact ⟨rfl, rfl⟩
    · obtain rfl : r = 0 := by
        rw [HPL.out, if_neg (by rintro (k | k); exact hbig k; exact k.1 h6), if_neg (by omega), if_neg (by rintro (k | k) <;> omega)]
      go_enter Tryz.func37, Tryz.ntmps37
      go_wp2_with (first
        | (go_at_call 24; refine HS.out.mono ?_; rintro e w1 ⟨rfl, rfl⟩)
        | (go_at_call 34; refine HR.out.mono ?_; rintro e w1 ⟨rfl, rfl⟩)
        | (go_at_call 25; refine HK.out.mono ?_; rintro e w1 ⟨rfl, rfl⟩))
      go_ret
      exact ⟨rfl, rfl⟩
  | true =>
    have h6 : knd t ≠ 6 := HH.out.1.1 rfl
    by_cases hbig : s < n
    · obtain rfl : r = 0x06070012 := by rw [HPL.out, if_pos (.inr ⟨h6, hbig⟩)]
      go_enter Tryz.func37, Tryz.ntmps37
      go_wp2_with (first
        | (go_at_call 24; refine HS.out.mono ?_; rintro e w1 ⟨rfl, rfl⟩)
        | (go_at_call 34; refine HR.out.mono ?_; rintro e w1 ⟨rfl, rfl⟩)
        | (go_at_call 25; refine HK.out.mono ?_; rintro e w1 ⟨rfl, rfl⟩))
      go_ret
      exact ⟨rfl, rfl⟩
    by_cases hsm : (n : Int) < s
    · obtain rfl : r = 0x06070013 := by rw [HPL.out, if_neg (by rintro (k | k); omega; exact hbig k.2), if_pos hsm]
      go_enter Tryz.func37, Tryz.ntmps37
      go_wp2_with (first
        | (go_at_call 24; refine HS.out.mono ?_; rintro e w1 ⟨rfl, rfl⟩)
        | (go_at_call 34; refine HR.out.mono ?_; rintro e w1 ⟨rfl, rfl⟩)
        | (go_at_call 25; refine HK.out.mono ?_; rintro e w1 ⟨rfl, rfl⟩))
      go_ret
      exact ⟨rfl, rfl⟩
    have hns : (n : Int) = s := by omega
    have hr0 : r = if (knd t = 1 ∧ (1 : Int) < b[0]?.getD 0) ∨ (knd t = 5 ∧ 86400000 ≤ num (b.take 4)) then 0x06090030 else 0 := by rw [HPL.out, if_neg (by rintro (k | k); omega; exact hbig k.2), if_neg hsm]
    by_cases h1 : knd t = 1
    · have hs1 : s = 1 := HH.out.2.1.1 h1
      have hL : L = 98 := HH.out.2.2.1.2 h1
      subst hs1 hL
      obtain rfl : n = 1 := by omega
      obtain ⟨ad, rfl, hc0⟩ := HA.out.rd.at_ 0 (by rw [HN.out]; omega)
      have hc1 : w.cell? ad = some (.int .u8 (b[0]?.getD 0)) := by rw [show ad.add 0 = ad from by unfold Addr.add; rw [if_pos rfl]] at hc0; exact hc0
      generalize b[0]?.getD 0 = x at hr0 hc0 hc1
      by_cases hx : (1 : Int) < x
      · obtain rfl : r = 0x06090030 := by rw [hr0, if_pos (.inl ⟨h1, hx⟩)]
        clear hr0
        go_enter Tryz.func37, Tryz.ntmps37
        go_wp2_with (first
          | (go_at_call 24; refine HS.out.mono ?_; rintro e w1 ⟨rfl, rfl⟩)
          | (go_at_call 34; refine HR.out.mono ?_; rintro e w1 ⟨rfl, rfl⟩)
          | (go_at_call 25; refine HK.out.mono ?_; rintro e w1 ⟨rfl, rfl⟩))
        go_ret
        exact ⟨rfl, rfl⟩
      · obtain rfl : r = 0 := by rw [hr0, if_neg (by rintro (k | k); exact hx k.2; omega)]
        clear hr0
        go_enter Tryz.func37, Tryz.ntmps37
        go_wp2_with (first
          | (go_at_call 24; refine HS.out.mono ?_; rintro e w1 ⟨rfl, rfl⟩)
          | (go_at_call 34; refine HR.out.mono ?_; rintro e w1 ⟨rfl, rfl⟩)
          | (go_at_call 25; refine HK.out.mono ?_; rintro e w1 ⟨rfl, rfl⟩))
        go_ret
        exact ⟨rfl, rfl⟩
    · by_cases h5 : knd t = 5
      · have hs5 : s = 6 := HH.out.2.1.2.2.2.2.1 h5
        have hL : L = 116 := HH.out.2.2.2.2 h5
        subst hs5 hL
        obtain rfl : n = 6 := by omega
        have hl4 : (b.take 4).length = 4 := by rw [List.length_take, HN.out]; rfl
        have HNU := Aside0.mk (rnumber_any A c (b.take 4) w (HA.out.take 4 (by omega)) (by omega))
        rw [hl4] at HNU
        generalize num (b.take 4) = x at hr0 HNU
        have hc4 : (4 : Int) ≤ (c : Int) := by omega
        by_cases hx : 86400000 ≤ x
        · obtain rfl : r = 0x06090030 := by rw [hr0, if_pos (.inr ⟨h5, hx⟩)]
          clear hr0
          go_enter Tryz.func37, Tryz.ntmps37
          go_wp2_with (first
            | (go_at_call 24; refine HS.out.mono ?_; rintro e w1 ⟨rfl, rfl⟩)
            | (go_at_call 34; refine HR.out.mono ?_; rintro e w1 ⟨rfl, rfl⟩)
            | (go_at_call 25; refine HK.out.mono ?_; rintro e w1 ⟨rfl, rfl⟩)
            | (go_at_call 58; refine HNU.out.mono ?_; rintro e w1 ⟨rfl, rfl⟩))
          go_ret
          exact ⟨rfl, rfl⟩
        · obtain rfl : r = 0 := by rw [hr0, if_neg (by rintro (k | k); omega; exact hx k.2)]
          clear hr0
          go_enter Tryz.func37, Tryz.ntmps37
          go_wp2_with (first
            | (go_at_call 24; refine HS.out.mono ?_; rintro e w1 ⟨rfl, rfl⟩)
            | (go_at_call 34; refine HR.out.mono ?_; rintro e w1 ⟨rfl, rfl⟩)
            | (go_at_call 25; refine HK.out.mono ?_; rintro e w1 ⟨rfl, rfl⟩)
            | (go_at_call 58; refine HNU.out.mono ?_; rintro e w1 ⟨rfl, rfl⟩))
          go_ret
          exact ⟨rfl, rfl⟩
      · obtain rfl : r = 0 := by rw [hr0, if_neg (by rintro (k | k); exact h1 k.1; exact h5 k.1)]
        clear hr0
        have g1 : (L == 98) = false := by have := HH.out.2.2.1; simpa using fun k => h1 (this.1 k)
        have g2 : (L == 116) = false := by have := HH.out.2.2.2; simpa using fun k => h5 (this.1 k)
        go_enter Tryz.func37, Tryz.ntmps37
        go_wp2_with (first
          | (go_at_call 24; refine HS.out.mono ?_; rintro e w1 ⟨rfl, rfl⟩)
          | (go_at_call 34; refine HR.out.mono ?_; rintro e w1 ⟨rfl, rfl⟩)
          | (go_at_call 25; refine HK.out.mono ?_; rintro e w1 ⟨rfl, rfl⟩))
        go_ret
        exact ⟨rfl, rfl⟩
end Go.Proofs.YtcgcghldgomelaaGreatDoor.Mp
