/- CompactBack: the walk over the law. -/
import Derived.Test.YteflphhdafhapaaLw2
import Derived.Test.YteflphhdafhapaaSam
namespace Go.Proofs.Yteflphhdafhapaa.Rng
open Go.RowKit Go.Shelf Go.Proofs.YteflphhdafhapaaW.PrintWords Go.Proofs.YteflphhdafhapaaW.PrintMore Go.Proofs.YteflphhdafhapaaW.PrintLast
open Go.Proofs.Yteflphhdafhapaa.Ref

theorem Bytes.append {a b : List Int} (ha : Bytes a) (hb : Bytes b) : Bytes (a ++ b) := by
  intro x hx
  rcases List.mem_append.1 hx with h | h
  · exact ha x h
  · exact hb x h
theorem wK_bytes (l : List Sg) (h : ∀ x ∈ l, Fit x ∧ Bytes x.2) : ∀ k, k ≤ l.length → Bytes (wK l k)
  | 0, _ => by
    unfold wK
    simpa using numL_bytes _ _
  | k + 1, hk => by
    have hil : k < l.length := by omega
    have hx := h _ (List.getElem_mem hil)
    rw [wK_succ l k hil, List.getElem?_eq_getElem hil, Option.getD_some]
    refine (wK_bytes l h k (by omega)).append ?_
    unfold wOne
    refine (((numL_bytes _ _).append ?_).append (numL_bytes _ _)).append hx.2
    intro y hy
    obtain rfl := List.mem_singleton.1 hy
    exact ⟨hx.1.2.2.1, hx.1.2.2.2⟩
theorem parse_calls (A : Option Addr) (c n : Nat) (zs : List Int) (w : World) (hn : zs.length = n) (hz : kB.C w A n zs) (hc : n ≤ c) (hB : Bytes zs) :
    Calls Try.prog 11 #[.slice A n c] w fun e w' => ∃ A2 c2 r1 r2 r3, e = .returned (.tuple #[.slice A2 (List.length r1) c2, .int .i64 r2, .int .i64 r3]) ∧ kS.C w' A2 r1.length r1 ∧ r1.length ≤ c2 ∧ Below w.heap.size w w' ∧ PSaid zs r1 r2 r3 := by
  subst hn
  refine (parse_any A c zs w hz hc hB).mono ?_
  rintro e w' ⟨v0, r1, r2, r3, rfl, hR, hb, hs⟩
  obtain ⟨A2, c2, rfl, hl2, hC⟩ := Kd.R_reads hR
  exact ⟨A2, c2, r1, r2, r3, rfl, hC, hl2, hb, hs⟩
theorem same_calls (A A2 : Option Addr) (c c2 : Nat) (l : List Sg) (w : World) (h1 : kS.C w A l.length l) (h2 : Kd.C k50 w A2 l.length (l.map to50)) (hl : l.length ≤ 1000000) :
    Calls Try.prog 13 #[.slice A l.length c, .slice A2 l.length c2] w fun e w' => e = .returned (.bool true) ∧ Below w.heap.size w w' := same_true A A2 c c2 l w h1 (C_of50 h2) hl

set_option maxRecDepth 100000 in
set_option maxHeartbeats 4000000 in
theorem cb_any (A A0 : Option Addr) (c c0 : Nat) (l : List Sg) (zs : List Int) (w : World) (hr : kS.C w A l.length l) (hc : l.length ≤ c) (hl : l.length ≤ reachBytes) (hb : ∀ x ∈ l, x.2.length ≤ reachBytes) (hfit : ∀ x ∈ l, Fit x ∧ Bytes x.2)
    (hz : kB.C w A0 zs.length zs) (hc0 : zs.length ≤ c0) (hB : Bytes zs) :
    Calls Try.prog 5 #[.slice A l.length c, .slice A0 zs.length c0] w fun e w' => e = .returned (.bool true) ∧ Below w.heap.size w w' := by
  obtain ⟨k, r, hf, hle⟩ := sizes_any l hl hb
  obtain ⟨n0, hn0⟩ : ∃ n0, zs.length = n0 := ⟨_, rfl⟩
  have HN0 := Aside0.mk hn0
  have HR := Aside0.mk hr
  have HZ : Aside0 (kB.C w A0 n0 zs) := ⟨by rw [← hn0]; exact hz⟩
  have HF := Aside0.mk hf
  have HFIT := Aside0.mk hfit
  have HBY := Aside0.mk hB
  rw [hn0] at hc0 ⊢
  clear hr hf hb hfit hz hB hn0
  by_cases h6 : 6000 < r
  · clear hle
    go_enter Try.func5, Try.ntmps5
    go_wp2_with (first
      | (go_at_call 6; refine (sizes_calls k A c l r w HR.out hc HF.out).mono ?_; rintro e w1 ⟨rfl, ⟨m1, rfl⟩⟩)
      | (go_at_call 7; refine (works_any _).mono ?_; rintro e w2 ⟨rfl, hb2⟩))
    go_ret
    exact ⟨rfl, below_step (pw_below_drewN (Below.refl _ _) m1) hb2⟩
  · by_cases h7 : 6000 < n0
    · clear hle
      go_enter Try.func5, Try.ntmps5
      go_wp2_with (first
        | (go_at_call 6; refine (sizes_calls k A c l r w HR.out hc HF.out).mono ?_; rintro e w1 ⟨rfl, ⟨m1, rfl⟩⟩)
        | (go_at_call 7; refine (works_any _).mono ?_; rintro e w2 ⟨rfl, hb2⟩))
      go_ret
      exact ⟨rfl, below_step (pw_below_drewN (Below.refl _ _) m1) hb2⟩
    · have hs := hle (by omega)
      have hll := sumB_le l l.length 0 (by omega)
      clear hle
      by_cases hbig : ∃ j, j < l.length ∧ big l j
      · have HG := Aside0.mk hbig
        clear hbig
        go_enter Try.func5, Try.ntmps5
        go_wp2_with (first
          | (go_at_call 6; refine (sizes_calls k A c l r w HR.out hc HF.out).mono ?_; rintro e w1 ⟨rfl, ⟨m1, rfl⟩⟩)
          | (go_at_call 8; refine (write_calls A c l _ (Kd.C_below HR.out (pw_below_drewN (Below.refl _ _) m1)) hs (by omega)).mono ?_; rintro e w2 ⟨A2, c2, r1, r2, rfl, hC2, hl2, hb2, ht2⟩; obtain ⟨rfl, rfl⟩ : r1 = [] ∧ r2 = 3 := told_one ht2 (.inl ⟨HG.out, rfl, rfl⟩); have HB2 := Aside0.mk (below_step (pw_below_drewN (Below.refl _ _) m1) hb2); clear hC2 hb2 ht2 hl2))
        refine (parse_calls A0 c0 n0 zs w2 HN0.out (Kd.C_below HZ.out HB2.out) hc0 HBY.out).mono ?_
        rintro e w6 ⟨A6, c6, p1, p2, p3, rfl, hC6, hl6, hb6, hp6⟩
        have HB6 := Aside0.mk (below_step HB2.out hb6)
        rcases back_two HBY.out (by rw [HN0.out]; omega) hp6 with ⟨rfl, rfl, g0, g1⟩ | ⟨rfl, rfl, gs, gw⟩
        · rw [HN0.out] at g1
          clear hC6 hb6 hp6
          go_wp2_with (go_at_call 7; refine (works_any _).mono ?_; rintro e w7 ⟨rfl, hb7⟩)
          go_ret
          exact ⟨rfl, below_step HB6.out hb7⟩
        · have hgl := sumB_le p1 p1.length 0 (by omega)
          have HC6 := Aside0.mk hC6
          have GW := Aside0.mk gw
          clear hC6 hb6 hp6 gw
          go_wp2_with (first
            | (go_at_call 8; refine (write_calls A6 c6 p1 _ HC6.out gs (by omega)).mono ?_; rintro e w7 ⟨A7, c7, q1, q2, rfl, hC7, hl7, hb7, ht7⟩; obtain ⟨rfl, rfl⟩ := GW.out _ _ ht7; have HB7 := Aside0.mk (below_step HB6.out hb7); have hcv7 := str_at (c := c7) hC7 w7 (Below.refl _ _); have hcv0 := str_at (c := c0) HZ.out w7 HB7.out; clear hC7 hb7 ht7 hl7)
            | (go_at_call 7; refine (works_any _).mono ?_; rintro e w8 ⟨rfl, hb8⟩))
          go_ret
          exact ⟨rfl, below_step HB7.out hb8⟩
      · have HG := Aside0.mk (show ∀ j, j < l.length → ¬ big l j from fun j hj hb => hbig ⟨j, hj, hb⟩)
        clear hbig
        have HX : Aside0 (∀ k, k < l.length → Fit (l[k]?.getD zSg)) := ⟨fun k hk => by rw [List.getElem?_eq_getElem hk]; exact (HFIT.out _ (List.getElem_mem hk)).1⟩
        have HW := Aside0.mk (wK_bytes l HFIT.out l.length (Nat.le_refl _))
        obtain ⟨wl, hwl⟩ : ∃ wl, wK l l.length = wl := ⟨_, rfl⟩
        have HWL := Aside0.mk hwl
        rw [hwl] at HW
        clear hwl
        go_enter Try.func5, Try.ntmps5
        go_wp2_with (first
          | (go_at_call 6; refine (sizes_calls k A c l r w HR.out hc HF.out).mono ?_; rintro e w1 ⟨rfl, ⟨m1, rfl⟩⟩)
          | (go_at_call 8; refine (write_calls A c l _ (Kd.C_below HR.out (pw_below_drewN (Below.refl _ _) m1)) hs (by omega)).mono ?_; rintro e w2 ⟨A2, c2, r1, r2, rfl, hC2, hl2, hb2, ht2⟩; obtain ⟨rfl, rfl⟩ : r1 = wl ∧ r2 = 0 := told_one ht2 (.inr ⟨HG.out, HWL.out.symm, rfl⟩); have HC2 := Aside0.mk hC2; have HB2 := Aside0.mk (below_step (pw_below_drewN (Below.refl _ _) m1) hb2); clear hC2 hb2 ht2)
          | (go_at_call 11; refine (parse_calls A2 c2 _ r1 w2 rfl HC2.out hl2 HW.out).mono ?_; rintro e w3 ⟨A3, c3, m3, f3, t3, rfl, hC3, hl3, hb3, hp3⟩; obtain ⟨rfl, rfl, rfl⟩ := back_one l hs HX.out HG.out (by rw [HWL.out]; exact hp3); have HC3 := Aside0.mk hC3; have HB3 := Aside0.mk (below_step HB2.out hb3); clear hC3 hb3 hp3 hl3 HC2)
          | (go_at_call 10; refine (plain_calls A c m3 _ (Kd.C_below HR.out HB3.out) hc (by omega)).mono ?_; rintro e w4 ⟨A4, c4, rfl, hC4, hl4, hb4⟩; have HC4 := Aside0.mk hC4; have HB4 := Aside0.mk (below_step HB3.out hb4); have HC3b := Aside0.mk (Kd.C_below HC3.out hb4); clear hC4 hb4 hl4)
          | (go_at_call 13; refine (same_calls A3 A4 c3 c4 m3 _ HC3b.out HC4.out (by omega)).mono ?_; rintro e w5 ⟨rfl, hb5⟩; have HB5 := Aside0.mk (below_step HB4.out hb5); clear hb5))
        refine (parse_calls A0 c0 n0 zs w5 HN0.out (Kd.C_below HZ.out HB5.out) hc0 HBY.out).mono ?_
        rintro e w6 ⟨A6, c6, p1, p2, p3, rfl, hC6, hl6, hb6, hp6⟩
        have HB6 := Aside0.mk (below_step HB5.out hb6)
        rcases back_two HBY.out (by rw [HN0.out]; omega) hp6 with ⟨rfl, rfl, g0, g1⟩ | ⟨rfl, rfl, gs, gw⟩
        · rw [HN0.out] at g1
          clear hC6 hb6 hp6
          go_wp2_with (go_at_call 7; refine (works_any _).mono ?_; rintro e w7 ⟨rfl, hb7⟩)
          go_ret
          exact ⟨rfl, below_step HB6.out hb7⟩
        · have hgl := sumB_le p1 p1.length 0 (by omega)
          have HC6 := Aside0.mk hC6
          have GW := Aside0.mk gw
          clear hC6 hb6 hp6 gw
          go_wp2_with (first
            | (go_at_call 8; refine (write_calls A6 c6 p1 _ HC6.out gs (by omega)).mono ?_; rintro e w7 ⟨A7, c7, q1, q2, rfl, hC7, hl7, hb7, ht7⟩; obtain ⟨rfl, rfl⟩ := GW.out _ _ ht7; have HB7 := Aside0.mk (below_step HB6.out hb7); have hcv7 := str_at (c := c7) hC7 w7 (Below.refl _ _); have hcv0 := str_at (c := c0) HZ.out w7 HB7.out; clear hC7 hb7 ht7 hl7)
            | (go_at_call 7; refine (works_any _).mono ?_; rintro e w8 ⟨rfl, hb8⟩))
          go_ret
          exact ⟨rfl, below_step HB7.out hb8⟩
end Go.Proofs.Yteflphhdafhapaa.Rng
