/- CompactReads: the walk over the law. -/
import Derived.Test.YteflphhdafhapaaOvr
namespace Go.Proofs.Yteflphhdafhapaa.Rng
open Go.RowKit Go.Shelf Go.Proofs.YteflphhdafhapaaW.PrintWords Go.Proofs.YteflphhdafhapaaW.PrintMore Go.Proofs.YteflphhdafhapaaW.PrintLast
open Go.Proofs.Yteflphhdafhapaa.Ref

theorem below_less {a b : Nat} {w W : World} (h : Below a w W) (hb : b ≤ a) : Below b w W := ⟨h.os, h.tape, h.output, h.size, fun k hk => h.block k (by omega)⟩
theorem below_fr {a : Nat} {w W : World} (h : Below a w W) : Fr (fun k => a ≤ k) w W := ⟨h.os, h.tape, h.output, h.size, fun k _ hm => h.block k (by omega)⟩
theorem nums_str {zs : List Int} (hB : Bytes zs) : numsS (strOfNums zs) = zs ∧ (strOfNums zs).size = zs.length := by
  refine ⟨?_, strOfNums_size zs⟩
  rw [numsS, strOfNums_data, List.map_map]
  have h : zs.map ((fun b : UInt8 => (b.toNat : Int)) ∘ fun n : Int => UInt8.ofNat n.toNat) = zs.map id := List.map_congr_left (fun x hx => by
    have hx := hB x hx
    show ((UInt8.ofNat x.toNat).toNat : Int) = x
    rw [UInt8.toNat_ofNat']
    omega)
  rw [h, List.map_id]
theorem rparse_calls (k : Nat) (A : Option Addr) (c n : Nat) (zs : List Int) (r1 : List Sg) (r2 r3 : Int) (w : World) (hn : zs.length = n) (hz : kB.C w A n zs) (hc : n ≤ c) (h : campanileref23_Parse.f k zs = some (r1.map to50, r2, r3)) :
    Calls Try.prog 12 #[.slice A n c] w fun e w' => ∃ A2 c2, e = .returned (.tuple #[.slice A2 r1.length c2, .int .i64 r2, .int .i64 r3]) ∧ kS.C w' A2 r1.length r1 ∧ Below w.heap.size w w' := by
  subst hn
  refine (campanileref23_Parse.calls k A c zs (r1.map to50) r2 r3 w hz hc h).mono ?_
  rintro e w' ⟨v0, rfl, hS, hb⟩
  obtain ⟨A2, c2, rfl, hl2, hC⟩ := Kd.R_reads (Kd.S_R hS)
  rw [List.length_map] at hC ⊢
  exact ⟨A2, c2, rfl, C_of50 hC, hb⟩
theorem parse_own (A : Option Addr) (c n : Nat) (zs : List Int) (w : World) (hn : zs.length = n) (hz : kB.C w A n zs) (hc : n ≤ c) (hB : Bytes zs) :
    Calls Try.prog 11 #[.slice A n c] w fun e w' => ∃ A2 c2 r1 r2 r3, e = .returned (.tuple #[.slice A2 (List.length r1) c2, .int .i64 r2, .int .i64 r3]) ∧ Kd.R kS 45 w' w.heap.size (fun _ => True) (.slice A2 (List.length r1) c2) r1 ∧ Below w.heap.size w w' ∧ PSaid zs r1 r2 r3 := by
  subst hn
  refine (parse_any A c zs w hz hc hB).mono ?_
  rintro e w' ⟨v0, r1, r2, r3, rfl, hR, hb, hs⟩
  obtain ⟨A2, c2, rfl, hl2, hC⟩ := Kd.R_reads hR
  exact ⟨A2, c2, r1, r2, r3, rfl, hR, hb, hs⟩
/-- What Parse tells is not long. -/
theorem said_short {zs : List Int} {r1 : List Sg} {r2 r3 : Int} (hl : zs.length ≤ 6000) (h : PSaid zs r1 r2 r3) : r1.length ≤ 6000 ∧ ∀ i, i < r1.length → lenAt r1 i ≤ 4096 := by
  rcases h with ⟨_, rfl, _⟩ | ⟨_, rfl, _⟩ | ⟨h4, _, K, hK, hok, h⟩
  · exact ⟨by simp, fun i hi => by simp at hi⟩
  · exact ⟨by simp, fun i hi => by simp at hi⟩
  · rcases h with ⟨_, rfl, _⟩ | ⟨_, _, rfl, _⟩
    · exact ⟨by simp, fun i hi => by simp at hi⟩
    · have h1 := posK_ge zs K
      have h2 := posK_le hok h4 K (Nat.le_refl _)
      obtain ⟨p, hp⟩ : ∃ p, posK zs K = p := ⟨_, rfl⟩
      rw [hp] at h1 h2
      rw [parsed_length]
      refine ⟨by omega, fun i hi => ?_⟩
      obtain ⟨_, h5, h6⟩ := okAt_spec (hok i hi)
      unfold lenAt
      rw [parsed_get zs K i hi, show (sgAt zs (posK zs i)).2.length = szAt zs (posK zs i) from data_length h6]
      exact h5

set_option maxRecDepth 100000 in
set_option maxHeartbeats 4000000 in
theorem cr_any (A0 : Option Addr) (c0 : Nat) (zs : List Int) (w : World) (hz : kB.C w A0 zs.length zs) (hc0 : zs.length ≤ c0) (hB : Bytes zs) :
    Calls Try.prog 4 #[.slice A0 zs.length c0] w fun e w' => e = .returned (.bool true) ∧ Below w.heap.size w w' := by
  obtain ⟨n0, hn0⟩ : ∃ n0, zs.length = n0 := ⟨_, rfl⟩
  have HN0 := Aside0.mk hn0
  have HZ : Aside0 (kB.C w A0 n0 zs) := ⟨by rw [← hn0]; exact hz⟩
  have HBY := Aside0.mk hB
  rw [hn0] at hc0 ⊢
  clear hz hB hn0
  by_cases h7 : 6000 < n0
  · go_enter Try.func4, Try.ntmps4
    go_wp2_with (go_at_call 7; refine (works_any _).mono ?_; rintro e w2 ⟨rfl, hb2⟩)
    go_ret
    exact ⟨rfl, hb2⟩
  · obtain ⟨k, s1, s2, s3, hf, hsaid⟩ := ref_parse HBY.out (by rw [HN0.out]; omega)
    have HF := Aside0.mk hf
    have HS := Aside0.mk hsaid
    obtain ⟨hsl, hsb⟩ := said_short (by rw [HN0.out]; omega) hsaid
    have HSB := Aside0.mk hsb
    clear hf hsaid hsb
    obtain ⟨g1, g2⟩ := nums_str HBY.out
    rw [HN0.out] at g2
    have hcv0 := str_at (c := c0) HZ.out w (Below.refl _ _)
    obtain ⟨st, hst⟩ : ∃ st, strOfNums zs = st := ⟨_, rfl⟩
    rw [hst] at hcv0 g1 g2
    have HST := Aside0.mk hst
    clear hst
    obtain ⟨cap4, W4, hrun4, hcap4, hC4, hb4, hlt4⟩ := conv_any w st n0 g2 (by omega)
    rw [g1] at hC4
    have HC4 := Aside0.mk hC4
    have HB4 := Aside0.mk hb4
    clear hC4 hb4 g1 g2
    go_enter Try.func4, Try.ntmps4
    go_wp2_with (first
      | (go_at_call 11; refine (parse_own _ cap4 n0 zs W4 HN0.out HC4.out hcap4 HBY.out).mono ?_; rintro e w5 ⟨A5, c5, r1, r2, r3, rfl, hR5, hb5, hp5⟩; obtain ⟨rfl, rfl, rfl⟩ := said_one HS.out hp5; have HR5 := Aside0.mk hR5; have HB5 := Aside0.mk hb5; clear hR5 hb5 hp5)
      | (go_at_call 12; refine (rparse_calls k A0 c0 n0 zs s1 s2 s3 w5 HN0.out (Kd.C_below HZ.out (below_step HB4.out HB5.out)) hc0 HF.out).mono ?_; rintro e w6 ⟨A6, c6, rfl, hC6, hb6⟩; have HC6 := Aside0.mk hC6; have HR6 := Aside0.mk (Kd.R_below HR5.out hb6); have HB6 := Aside0.mk (below_step HB5.out hb6); clear hC6 hb6 HR5)
      | (go_at_call 13; refine (same_true A5 A6 c5 c6 s1 w6 (by obtain ⟨_, _, hC⟩ := Kd.R_reads' HR6.out; exact hC) HC6.out (by omega)).mono ?_; rintro e w7 ⟨rfl, hb7⟩; have HR7 := Aside0.mk (Kd.R_below HR6.out hb7); have HB7 := Aside0.mk (below_step HB6.out hb7); clear hb7 HR6 HC6))
    refine (over_any W4.heap.size s1.length A5 c5 s1 w7 HR7.out rfl (by omega) (fun i hi => Nat.le_trans (HSB.out i hi) (by decide))).mono ?_
    rintro e w8 ⟨rfl, hb8⟩
    have hb48 : Below W4.heap.size W4 w8 := HB7.out.trans hb8
    have hoff : Off (fun k => W4.heap.size ≤ k) (some ⟨w.heap.size, 0, none⟩) n0 := fun ad e _ => by
      injection e with e
      subst e
      show ¬ W4.heap.size ≤ w.heap.size
      omega
    have hcvI := str_at (c := cap4) (Fr.C HN0.out HC4.out (below_fr hb48) hoff) w8 (Below.refl _ _)
    have hb08 : Below w.heap.size w w8 := HB4.out.trans (below_less hb48 HB4.out.size)
    have hcvB := str_at (c := c0) (Kd.C_below HZ.out hb08) w8 (Below.refl _ _)
    rw [HST.out] at hcvI hcvB
    have HB8 := Aside0.mk hb08
    clear hb8 HR7 hb48 hb08 hoff
    go_wp2_with (go_at_call 7; refine (works_any _).mono ?_; rintro e w9 ⟨rfl, hb9⟩)
    go_ret
    exact ⟨rfl, below_step HB8.out hb9⟩
end Go.Proofs.Yteflphhdafhapaa.Rng
