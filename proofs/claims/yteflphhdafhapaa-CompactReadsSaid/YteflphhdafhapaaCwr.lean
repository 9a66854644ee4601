/- CompactWrites: the walk over the law. -/
import Derived.Test.YteflphhdafhapaaLw1
import Derived.Test.YteflphhdafhapaaOpn
namespace Go.Proofs.Yteflphhdafhapaa.Rng
open Go.RowKit Go.Shelf Go.Proofs.YteflphhdafhapaaW.PrintWords Go.Proofs.YteflphhdafhapaaW.PrintMore Go.Proofs.YteflphhdafhapaaW.PrintLast
open Go.Proofs.Yteflphhdafhapaa.Ref

theorem sumB_zero (l : List Sg) : sumB l 0 = 0 := rfl
theorem sizes_at (l : List Sg) (hl : l.length ≤ reachBytes) (hb : ∀ x ∈ l, x.2.length ≤ reachBytes) : ∀ m i, i + m = l.length → sumB l i ≤ 281474976710656 → ∃ r : Int, campanilelaw23_sizes.l0 (m + 1) (l.map to45) (sumB l i : Int) (i : Int) = some r ∧ (r ≤ 6000 → sumB l l.length ≤ 6000)
  | 0, i, hi, hs => by
    obtain rfl : i = l.length := by omega
    refine ⟨sumB l l.length, ?_, fun h => by omega⟩
    rw [campanilelaw23_sizes.l0, List.length_map, if_neg (by omega)]
  | m + 1, i, hi, hs => by
    have hil : i < l.length := by omega
    have hR : reachBytes ≤ 140737488355328 := by decide
    rw [campanilelaw23_sizes.l0, List.length_map, if_pos (by omega)]
    by_cases h6 : (sumB l i : Int) ≤ 6000
    · have hx : bLen l i ≤ reachBytes := by
        unfold bLen
        rw [List.getElem?_eq_getElem hil]
        exact hb _ (List.getElem_mem hil)
      have hs1 := sumB_mono l i hil
      obtain ⟨r, h1, h2⟩ := sizes_at l hl hb m (i + 1) (by omega) (by omega)
      refine ⟨r, ?_, h2⟩
      have e3 : ((to45 (l[i]?.getD zSg)).f1).length = bLen l i := rfl
      rw [if_pos h6, if_pos (by omega), rd45 l i hil, e3, w64 ((sumB l i : Int) + 1) (by omega) (by omega), w64 ((sumB l i : Int) + 1 + (bLen l i : Int)) (by omega) (by omega), w64 ((i : Int) + 1) (by omega) (by omega)]
      rw [show ((sumB l i : Int) + 1 + (bLen l i : Int)) = (sumB l (i + 1) : Int) by omega, show ((i : Int) + 1) = ((i + 1 : Nat) : Int) by omega]
      exact h1
    · rw [if_neg h6]
      exact ⟨_, rfl, fun h => absurd h h6⟩
theorem sizes_any (l : List Sg) (hl : l.length ≤ reachBytes) (hb : ∀ x ∈ l, x.2.length ≤ reachBytes) : ∃ k, ∃ r : Int, campanilelaw23_sizes.f k (l.map to45) = some r ∧ (r ≤ 6000 → sumB l l.length ≤ 6000) :=
  ⟨_, sizes_at l hl hb l.length 0 (by omega) (by rw [sumB_zero]; omega)⟩
theorem plain_at (l : List Sg) (hl : l.length ≤ 1000000) : ∀ m i, i + m = l.length → campanilelaw23_plain.l0 (m + 1) (l.map to45) ((l.take i).map to50) (i : Int) = some (l.map to50)
  | 0, i, hi => by
    obtain rfl : i = l.length := by omega
    rw [campanilelaw23_plain.l0, List.length_map, if_neg (by omega), List.take_length]
  | m + 1, i, hi => by
    have hil : i < l.length := by omega
    have h := plain_at l hl m (i + 1) (by omega)
    have hlt : ((l.take i).map to50).length = i := by rw [List.length_map, List.length_take]; omega
    rw [campanilelaw23_plain.l0, List.length_map, if_pos (by omega), if_pos (by omega), if_pos (by omega), rd45 l i hil, w64 ((i : Int) + 1) (by omega) (by omega)]
    rw [List.take_add_one, List.getElem?_eq_getElem hil, List.map_append] at h
    rw [List.getElem?_eq_getElem hil]
    exact h
theorem plain_f (l : List Sg) (hl : l.length ≤ 1000000) : campanilelaw23_plain.f (l.length + 1) (l.map to45) = some (l.map to50) := plain_at l hl l.length 0 (by omega)

theorem sizes_calls (k : Nat) (A : Option Addr) (c : Nat) (l : List Sg) (r : Int) (w : World) (hr : kS.C w A l.length l) (hc : l.length ≤ c) (h : campanilelaw23_sizes.f k (l.map to45) = some r) :
    Calls Try.prog 6 #[.slice A l.length c] w fun e w' => e = .returned (.int .i64 r) ∧ Drawn0 w w' := by
  have h := campanilelaw23_sizes.calls k A c (l.map to45) r w (by rw [List.length_map]; exact C_45 hr) (by rw [List.length_map]; exact hc) h
  rwa [List.length_map] at h
theorem plain_calls (A : Option Addr) (c : Nat) (l : List Sg) (w : World) (hr : kS.C w A l.length l) (hc : l.length ≤ c) (hl : l.length ≤ 1000000) :
    Calls Try.prog 10 #[.slice A l.length c] w fun e w' => ∃ A2 c2, e = .returned (.slice A2 l.length c2) ∧ Kd.C k50 w' A2 l.length (l.map to50) ∧ l.length ≤ c2 ∧ Below w.heap.size w w' := by
  have hV : Kd.V k45 45 w w.heap.size (fun k => k < w.heap.size) (.slice A (l.map to45).length c) (l.map to45) :=
    Kd.V_mk (by rw [List.length_map]; exact hc) (Kd.C_F (Kd.heap_iso _ (Kd.heap_pair (Kd.heap_iso _ (Kd.heap_pair (Kd.heap_int _) (Kd.heap_int _))) (Kd.heap_slice _ (Kd.heap_int _)))) (by rw [List.length_map]; exact C_45 hr))
  have h := campanilelaw23_plain.calls _ (fun k => k < w.heap.size) A c (l.map to45) (l.map to50) w hV (plain_f l hl)
  rw [List.length_map] at h
  refine h.mono ?_
  rintro e w' ⟨v0, rfl, hN, hb⟩
  obtain ⟨A2, c2, rfl, hl2, hF⟩ := Kd.N_V (base' := 0) hN
  rw [List.length_map] at hl2 hF ⊢
  exact ⟨A2, c2, rfl, Kd.F_now hF, hl2, hb⟩
theorem rwrite_calls (k : Nat) (A : Option Addr) (c : Nat) (l : List Sg) (r1 : List Int) (r2 : Int) (w : World) (hr : Kd.C k50 w A l.length (l.map to50)) (hc : l.length ≤ c) (h : campanileref23_Write.f k (l.map to50) = some (r1, r2)) :
    Calls Try.prog 9 #[.slice A l.length c] w fun e w' => ∃ A2 c2, e = .returned (.tuple #[.slice A2 r1.length c2, .int .i64 r2]) ∧ kB.C w' A2 r1.length r1 ∧ Below w.heap.size w w' := by
  have h := campanileref23_Write.calls k A c (l.map to50) r1 r2 w (by rw [List.length_map]; exact hr) (by rw [List.length_map]; exact hc) h
  rw [List.length_map] at h
  refine h.mono ?_
  rintro e w' ⟨v0, rfl, hR, hb⟩
  obtain ⟨A2, c2, rfl, _, hC⟩ := Kd.R_reads hR
  exact ⟨A2, c2, rfl, hC, hb⟩
theorem write_calls (A : Option Addr) (c : Nat) (l : List Sg) (w : World) (hr : kS.C w A l.length l) (hs : sumB l l.length ≤ 6000) (hlen : l.length ≤ 1000000) :
    Calls Try.prog 8 #[.slice A l.length c] w fun e w' => ∃ A2 c2, ∃ r1 : List Int, ∃ r2 : Int, e = .returned (.tuple #[.slice A2 r1.length c2, .int .i64 r2]) ∧ kB.C w' A2 r1.length r1 ∧ r1.length ≤ c2 ∧ Below w.heap.size w w' ∧ wTold l r1 r2 := by
  refine (write_any A c l w hr hlen).mono ?_
  rintro e w' ⟨v0, r1, r2, rfl, hR, hb, h⟩
  obtain ⟨A2, c2, rfl, hl2, hC⟩ := Kd.R_reads hR
  exact ⟨A2, c2, r1, r2, rfl, hC, hl2, hb, told_of_write hs h⟩

set_option maxRecDepth 100000 in
set_option maxHeartbeats 4000000 in
theorem cw_any (A : Option Addr) (c : Nat) (l : List Sg) (w : World) (hr : kS.C w A l.length l) (hc : l.length ≤ c) (hl : l.length ≤ reachBytes) (hb : ∀ x ∈ l, x.2.length ≤ reachBytes) :
    Calls Try.prog 3 #[.slice A l.length c] w fun e w' => e = .returned (.bool true) ∧ Below w.heap.size w w' := by
  obtain ⟨k, r, hf, hle⟩ := sizes_any l hl hb
  have HR := Aside0.mk hr
  have HF := Aside0.mk hf
  have HB := Aside0.mk hb
  clear hr hf hb
  by_cases h6 : 6000 < r
  · clear hle
    go_enter Try.func3, Try.ntmps3
    go_wp2_with (first
      | (go_at_call 6; refine (sizes_calls k A c l r w HR.out hc HF.out).mono ?_; rintro e w1 ⟨rfl, ⟨m1, rfl⟩⟩)
      | (go_at_call 7; refine (works_any _).mono ?_; rintro e w2 ⟨rfl, hb2⟩))
    go_ret
    exact ⟨rfl, below_step (pw_below_drewN (Below.refl _ _) m1) hb2⟩
  · have hs := hle (by omega)
    have hll := sumB_le l l.length 0 (by omega)
    obtain ⟨k2, s1, s2, hf2, htold⟩ := ref_write l hs
    have HF2 := Aside0.mk hf2
    have HT := Aside0.mk htold
    clear hf2 htold hle
    go_enter Try.func3, Try.ntmps3
    go_wp2_with (first
      | (go_at_call 6; refine (sizes_calls k A c l r w HR.out hc HF.out).mono ?_; rintro e w1 ⟨rfl, ⟨m1, rfl⟩⟩)
      | (go_at_call 8; refine (write_calls A c l _ (Kd.C_below HR.out (pw_below_drewN (Below.refl _ _) m1)) hs (by omega)).mono ?_; rintro e w2 ⟨A2, c2, r1, r2, rfl, hC2, hl2, hb2, ht2⟩; obtain ⟨rfl, rfl⟩ := told_one ht2 HT.out; have HC2 := Aside0.mk hC2; have HB2 := Aside0.mk (below_step (pw_below_drewN (Below.refl _ _) m1) hb2); clear hC2 hb2 ht2 hl2)
      | (go_at_call 10; refine (plain_calls A c l _ (Kd.C_below HR.out HB2.out) hc (by omega)).mono ?_; rintro e w3 ⟨A3, c3, rfl, hC3, hl3, hb3⟩; have HC3 := Aside0.mk hC3; have HB3 := Aside0.mk hb3; clear hC3 hb3)
      | (go_at_call 9; refine (rwrite_calls k2 A3 c3 l r1 r2 _ HC3.out hl3 HF2.out).mono ?_; rintro e w4 ⟨A4, c4, rfl, hC4, hb4⟩; have HB4 := Aside0.mk hb4; have hcv2 := str_at (c := c2) HC2.out w4 (below_step HB3.out HB4.out); have hcv4 := str_at (c := c4) hC4 w4 (Below.refl _ _); clear hC4 hb4)
      | (go_at_call 7; refine (works_any _).mono ?_; rintro e w5 ⟨rfl, hb5⟩))
    go_ret
    exact ⟨rfl, below_step (below_step (below_step HB2.out HB3.out) HB4.out) hb5⟩
end Go.Proofs.Yteflphhdafhapaa.Rng
