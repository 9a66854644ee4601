/- slices.Grow of a nil slice, and slices.Concat, of bytes. -/
import Derived.Test.YteflphhdafhapaaKit
import Derived.Test.YteflphhdafhapaaWZeros
namespace Go.Proofs.Yteflphhdafhapaa.Rng
open Go.RowKit Go.Shelf Go.Proofs.YteflphhdafhapaaW.PrintWords Go.Proofs.YteflphhdafhapaaW.PrintMore

set_option maxRecDepth 100000 in
set_option maxHeartbeats 1000000 in
theorem grow_zero (w : World) :
    Calls Try.prog 23 #[.slice none 0 0, .int .i64 0] w fun e w' => e = .returned (.slice none 0 0) ∧ w = w' := by
  go_enter Try.func23, Try.ntmps23
  go_wp2
  go_ret
  exact ⟨rfl, rfl⟩
set_option maxRecDepth 100000 in
set_option maxHeartbeats 1000000 in
theorem grow_pos (n : Int) (w : World) (h0 : 0 < n) (hn : n ≤ 70368744177664) :
    Calls Try.prog 23 #[.slice none 0 0, .int .i64 n] w fun e w' => ∃ v0_ : Value, e = .returned v0_ ∧ Kd.R kB 5 w' w.heap.size (fun _ => True) v0_ [] ∧ Below w.heap.size w w' := by
  obtain ⟨i0, hi0, hz0, hz1, hz2⟩ := info_parts info_u8
  go_enter Try.func23, Try.ntmps23
  go_wp2_with ((with_reducible refine gate_dst (N := 22) rfl ?_); refine Kd.R_append_zeros kB (w0 := w) w.heap.size rfl _ _ _ _ 5 (.int .u8 0) 1 rfl Try.underlying25 (k := .i64) Try.underlying3 info_u8 rfl (by decide) (by decide) _ [] 0 n (fun _ => True) rfl rfl rfl (fun _ _ => trivial) (Kd.R_nil _ _ _ _ _) (by omega) (Below.refl _ _) (Nat.le_refl _) (by simp; omega) ?_; intro v1 w1 hown hb hg hat; have HO := Aside0.mk hown; have HB := Aside0.mk hb; clear hown hb hg hat; obtain ⟨A1, c1, rfl, hlc, _⟩ := Kd.R_reads HO.out; have hcut := (print_take_int (P := Try.prog) (k := .u8) 25 5 Try.underlying25 hi0 hz1 A1 c1 _ 0 (by omega) (by omega) hlc).1)
  go_ret
  exact ⟨_, rfl, Kd.R_take (m := 0) HO.out (Nat.zero_le _), HB.out⟩
theorem grow_any (n : Int) (w : World) (h0 : 0 ≤ n) (hn : n ≤ 70368744177664) :
    Calls Try.prog 23 #[.slice none 0 0, .int .i64 n] w fun e w' => ∃ v0_ : Value, e = .returned v0_ ∧ Kd.R kB 5 w' w.heap.size (fun _ => True) v0_ [] ∧ Below w.heap.size w w' := by
  rcases Int.lt_or_eq_of_le h0 with h | rfl
  · exact grow_pos n w h hn
  · exact (grow_zero w).mono fun e w' ⟨he, hw⟩ => ⟨_, he, hw ▸ Kd.R_nil _ _ _ _ _, hw ▸ Below.refl _ _⟩

/-- A row of byte slices, read: slice j. -/
theorem rows_at {w : World} {A : Option Addr} {n : Nat} {xs : List (List Int)} (h : Kd.C (Kd.slice 5 kB) w A n xs) (j : Nat) (hj : j < n) :
    ∃ ad A0 c0, A = some ad ∧ w.cell? (ad.add j) = some (.slice A0 (xs[j]?.getD []).length c0) ∧ (xs[j]?.getD []).length ≤ c0 ∧ kB.C w A0 (xs[j]?.getD []).length (xs[j]?.getD []) := by
  obtain ⟨ad, c, e, _, hK, hc0⟩ := Kd.C_get h ([] : List Int) (j : Int) (by omega) (by omega)
  have hc : ∀ i u, c[i]? = some u → w.cell? (ad.add (j * 1 + i)) = some u := hc0
  obtain ⟨A0, c0, rfl, l0, g0⟩ := hK
  rw [Int.toNat_natCast, List.getD_eq_getElem?_getD] at *
  exact ⟨ad, A0, c0, e, by have hq := hc 0 _ rfl; rwa [Nat.mul_one, Nat.add_zero] at hq, l0, g0⟩
def flatT (ss : List (List Int)) (k : Nat) : List Int := (ss.take k).flatten
def flatN (ss : List (List Int)) (k : Nat) : Nat := (flatT ss k).length
theorem flatT_succ (ss : List (List Int)) (k : Nat) (hk : k < ss.length) : flatT ss (k + 1) = flatT ss k ++ ss[k]?.getD [] := by
  unfold flatT
  rw [List.take_add_one, List.getElem?_eq_getElem hk]
  simp only [Option.toList_some, List.flatten_append, List.flatten_cons, List.flatten_nil, List.append_nil, Option.getD_some]
theorem flatN_succ (ss : List (List Int)) (k : Nat) (hk : k < ss.length) : flatN ss (k + 1) = flatN ss k + (ss[k]?.getD []).length := by
  unfold flatN
  rw [flatT_succ ss k hk, List.length_append]
theorem flat_le (ss : List (List Int)) (k : Nat) : flatN ss k ≤ ss.flatten.length := by
  unfold flatN flatT
  conv => rhs; rw [← List.take_append_drop k ss]
  rw [List.flatten_append, List.length_append]
  omega
theorem flatT_all (ss : List (List Int)) (k : Nat) (h : ss.length = k) : flatT ss k = ss.flatten := by
  unfold flatT
  rw [List.take_of_length_le (by omega)]

set_option maxRecDepth 100000 in
set_option maxHeartbeats 4000000 in
theorem concat_any (A : Option Addr) (c : Nat) (ss : List (List Int)) (w : World) (hr : Kd.C (Kd.slice 5 kB) w A ss.length ss) (hl : ss.flatten.length ≤ 70368744177664) :
    Calls Try.prog 18 #[.slice A ss.length c] w fun e w' => ∃ v0_ : Value, e = .returned v0_ ∧ Kd.R kB 5 w' w.heap.size (fun _ => True) v0_ ss.flatten ∧ Below w.heap.size w w' := by
  have hlen : ss.length ≤ 9223372036854775807 := hr.2.1
  have HR := Aside0.mk hr
  have HL := Aside0.mk hl
  obtain ⟨n, hn⟩ : ∃ n, ss.length = n := ⟨_, rfl⟩
  have HN := Aside0.mk hn
  rw [hn] at hlen
  rw [hn]
  clear hr hn hl
  go_enter Try.func18, Try.ntmps18
  go_wp2
  go_loop [3, 5, 11] (fun sz _ i => ∃ k : Nat, k ≤ n ∧ i = .int .i64 k ∧ sz = .int .i64 (flatN ss k : Int)) (fun _ _ i => n - (intOf i).toNat)
  case atStart => exact ⟨0, Nat.zero_le _, rfl, rfl⟩
  case round =>
    obtain ⟨k, hk, rfl, rfl⟩ := hrel
    have hfl := flat_le ss k
    have hfl2 := HL.out
    have hfb : flatN ss k ≤ 70368744177664 := by omega
    by_cases hlt : k < n
    · obtain ⟨ad, A0, c0, rfl, hcell, _, _⟩ := rows_at HR.out k (by rw [HN.out]; exact hlt)
      have hs := flat_le ss (k + 1)
      rw [flatN_succ ss k (by rw [HN.out]; exact hlt)] at hs
      obtain ⟨m, hm⟩ : ∃ m, flatN ss k = m := ⟨_, rfl⟩
      have HM := Aside0.mk hm
      obtain ⟨q, hq⟩ : ∃ q, (ss[k]?.getD []).length = q := ⟨_, rfl⟩
      have HQ := Aside0.mk hq
      rw [hm] at hs hfb
      rw [hq] at hs hcell
      rw [hm]
      have hmq : m + q ≤ 70368744177664 := by omega
      clear hm hq hs hfl hfl2
      go_wp2
      go_round
      case rel => exact ⟨k + 1, by omega, by go_num, by rw [flatN_succ ss k (by rw [HN.out]; exact hlt), HM.out, HQ.out]; go_num⟩
      case measure => simp [intOf]; omega
    · obtain rfl : k = n := by omega
      go_wp2_with (go_at_call 23; refine (grow_any _ _ (by omega) (by omega)).mono ?_; rintro e w1 ⟨v1, rfl, hown, hb⟩; have HO := Aside0.mk hown; have HB := Aside0.mk hb; clear hown hb)
      clear hfl hfb
      go_loopw [6, 8, 27] (fun v _ i wr => ∃ j : Nat, j ≤ k ∧ i = .int .i64 j ∧ Aside0 (Kd.R kB 5 wr w.heap.size (fun _ => True) v (flatT ss j)) ∧ Aside0 (Below w.heap.size w wr)) (fun _ _ i _ => k - (intOf i).toNat)
      case atStart => exact ⟨0, Nat.zero_le _, rfl, HO, HB⟩
      case round =>
        clear HO HB
        obtain ⟨j, hj, rfl, HO, HB⟩ := hrel
        by_cases hlt2 : j < k
        · obtain ⟨ad, A0, c0, rfl, hcell0, hlc, hC0⟩ := rows_at HR.out j (by rw [HN.out]; exact hlt2)
          have hcell := pw_cell_below HB.out hcell0
          have HC := Aside0.mk (Kd.C_below hC0 HB.out)
          have hle := flat_le ss (j + 1)
          rw [flatN_succ ss j (by rw [HN.out]; exact hlt2)] at hle
          have hsz := HB.out.size
          have hbb : ((flatT ss j).length + (ss[j]?.getD []).length) * 1 ≤ 140737488355328 := by have h1 : flatN ss j = (flatT ss j).length := rfl; omega
          have HBB := Aside0.mk hbb
          have HSZ := Aside0.mk hsz
          clear hcell0 hC0 hle hbb hsz hfl2
          go_wp2_with ((with_reducible refine gate_dst (N := 33) rfl ?_); refine Kd.R_append_row (Value.int .u8) (0 : Int) (h1 := fun _ => rfl) (w0 := w) w.heap.size rfl _ _ _ 5 (.int .u8 0) 1 rfl Try.underlying25 info_u8 rfl (by decide) _ _ _ _ _ _ (fun _ => True) rfl rfl (fun _ _ => trivial) HO.out HC.out HB.out HSZ.out HBB.out ?_; intro v2 w2 hown hb hg hat; have HO2 := Aside0.mk hown; have HB2 := Aside0.mk hb; clear hown hb hg hat)
          go_roundw
          case rel => exact ⟨j + 1, by omega, by go_num, ⟨by rw [flatT_succ ss j (by rw [HN.out]; exact hlt2)]; exact HO2.out⟩, HB2⟩
          case measure => simp [intOf]; omega
        · obtain rfl : j = k := by omega
          go_wp2
          go_ret
          exact ⟨_, rfl, by rw [← flatT_all ss _ HN.out]; exact HO.out, HB.out⟩
end Go.Proofs.Yteflphhdafhapaa.Rng
