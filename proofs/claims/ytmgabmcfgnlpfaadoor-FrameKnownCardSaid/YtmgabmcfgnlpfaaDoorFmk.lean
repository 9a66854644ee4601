/- FrameMakes: frames are made as the document says, and told. -/
import Derived.Test.YtmgabmcfgnlpfaaDoorHlp
import Derived.Deep.Cut
import Derived.Deep.DeepCutAuto
import Derived.Deep.RegionHeld3
namespace Go.Proofs.YtmgabmcfgnlpfaaDoor.Frm
open Go.RowKit Go.Proofs.YtmgabmcfgnlpfaaDoorW.PrintWords Go.Proofs.YtmgabmcfgnlpfaaDoorW.PrintMore Go.Proofs.YtmgabmcfgnlpfaaDoorW.PrintLast

theorem data_le {f : Fm} {l : List Int} (h : DataOf f l) (h8 : f.d.length = 8) : l.length ≤ 8 := by
  rcases h with ⟨_, _, e⟩ | ⟨_, e⟩
  · subst e
    rw [List.length_take]
    omega
  · subst e
    simp
set_option maxHeartbeats 4000000 in
set_option maxRecDepth 100000 in
theorem makes_any (i : Int) (A : Option Addr) (c : Nat) (zs : List Int) (n : Int) (ig ng g0 g1 g2 g3 g4 g5 g6 g7 : Int) (qg : Bool) (w : World) (hC : kB.C w A zs.length zs) (hi : 0 ≤ i) (hz : ∀ x ∈ zs, 0 ≤ x ∧ x < 256) (hf : Wf ⟨ig, ng, [g0, g1, g2, g3, g4, g5, g6, g7], qg⟩) (hl : zs.length ≤ 1000) :
    Calls Tryd.prog 5 #[.int .u16 i, .slice A zs.length c, .int .i64 n, .agg #[.int .u16 ig, .int .i64 ng, .int .u8 g0, .int .u8 g1, .int .u8 g2, .int .u8 g3, .int .u8 g4, .int .u8 g5, .int .u8 g6, .int .u8 g7, .bool qg]] w fun e w' => e = .returned (.bool true) ∧ Below w.heap.size w w' := by
  have HC := Aside0.mk hC
  have HZ := Aside0.mk hz
  have HWF := Aside0.mk hf
  have heq := eq_self
  clear hC hz hf
  go_enter Tryd.func5, Tryd.ntmps5
  go_upto_region 12 with (first
    | ((with_reducible refine gate_dst (N := 31) rfl ?_); refine Kd.R_append_row (Value.int .u8) (0 : Int) (h1 := fun _ => rfl) (w0 := w) w.heap.size rfl _ _ _ 5 (.int .u8 0) 1 rfl Tryd.underlying36 info_u8 rfl (by decide) _ [] zs A zs.length c (fun _ => True) rfl rfl (fun _ _ => trivial) (Kd.R_nil _ _ _ _ _) (Kd.C_below HC.out (below_alloc (Below.refl _ _) _)) (below_alloc (Below.refl _ _) _) (by simp) (by simp; omega) ?_; intro v1 w1 hown hb hg hat; have HF1 := Aside0.mk (blk_grown (World.alloc_heap_new w _) hg (show some w.heap.size ≠ none by simp)); have HB1 := Aside0.mk hb; rw [List.nil_append] at hown; obtain ⟨A1, c1, rfl, _, hC1⟩ := Kd.R_reads hown; have HC1 := Aside0.mk hC1; clear hown hb hg hat hC1)
    | (go_at_call 14; refine (fmake_of i A1 c1 zs _ (C_Rd HC1.out) hi HZ.out).mono ?_; rintro e w2 ⟨ia, na, a0, a1, a2, a3, a4, a5, a6, a7, qa, ka, rfl, hm, hb⟩; have HM := Aside0.mk hm; have HF2 := Aside0.mk (blk_below HF1.out hb); have HC2 := Aside0.mk (Kd.C_below HC1.out hb); have HB2 := Aside0.mk (HB1.out.trans (hb.mono HB1.out.size)); clear hm hb)
    | (go_at_call 15; refine (rmake_of i A c zs _ ka HM.out _ (C_Rd (Kd.C_below HC.out (HB2.out.alloc HB2.out.size _)))).mono ?_; rintro e w3 ⟨rfl, hb⟩; rw [lit_cells]; have HA3 := Aside0.mk (after_call hb).1; have HF3 := Aside0.mk (blk_below (blk_alloc HF2.out _) hb); have HC3 := Aside0.mk (Kd.C_below HC2.out (after_call hb).2); have HB3 := Aside0.mk (HB2.out.trans ((after_call hb).2.mono HB2.out.size)); clear hb)
    | (go_at_call 16; refine (fask_of i n _ hi).mono ?_; rintro e w4 ⟨ik, nk, k0, k1, k2, k3, k4, k5, k6, k7, qk, kk, rfl, hm, hb⟩; have HM2 := Aside0.mk hm; have HA4 := Aside0.mk (blk_below (blk_alloc HA3.out _) hb); have HD4 := Aside0.mk (after_call hb).1; have HF4 := Aside0.mk (blk_below (blk_alloc HF3.out _) hb); have HC4 := Aside0.mk (Kd.C_below HC3.out (after_call hb).2); have HB4 := Aside0.mk (HB3.out.trans ((after_call hb).2.mono HB3.out.size)); clear hm hb)
    | (go_at_call 17; refine (rask_of i n _ kk HM2.out _).mono ?_; rintro e w5 ⟨rfl, hb⟩; rw [lit_cells]; have HA5 := Aside0.mk (blk_below (blk_alloc HA4.out _) hb); have HD5 := Aside0.mk (blk_below (blk_alloc HD4.out _) hb); have HK5 := Aside0.mk (after_call hb).1; have HF5 := Aside0.mk (blk_below (blk_alloc HF4.out _) hb); have HC5 := Aside0.mk (Kd.C_below HC4.out (after_call hb).2); have HB5 := Aside0.mk (HB4.out.trans ((after_call hb).2.mono HB4.out.size)); clear hb; obtain ⟨a'0, a'1, a'2, a'3, a'4, a'5, a'6, a'7, a'8, a'9, a'10, _⟩ := fm_lit HA5.out; obtain ⟨d'0, d'1, d'2, d'3, d'4, d'5, d'6, d'7, d'8, d'9, d'10, _⟩ := fm_lit HD5.out; obtain ⟨k'0, k'1, k'2, k'3, k'4, k'5, k'6, k'7, k'8, k'9, k'10, _⟩ := fm_lit HK5.out; obtain ⟨f'0, f'1, f'2, f'3, f'4, f'5, f'6, f'7, f'8, f'9, f'10, _⟩ := fm_lit HF5.out; have hl1 : w.heap.size < w5.heap.size := blk_lt HF5.out; have hl2 : w2.heap.size < w5.heap.size := blk_lt HA5.out; have hl3 : w3.heap.size < w5.heap.size := blk_lt HD5.out; have hl4 : w4.heap.size < w5.heap.size := blk_lt HK5.out)
    | (go_at_call 18; refine (same_any A1 A c1 c zs _ (Kd.C_below HC5.out (below_alloc (Below.refl _ _) _)) (Kd.C_below HC.out (HB5.out.alloc HB5.out.size _))).mono ?_; rintro e w' ⟨rfl, rfl⟩))
  go_loopw [85] (fun j wr => ∃ k : Nat, k ≤ 3 ∧ j = .int .i64 k ∧ Aside0 (wr.heap[w5.heap.size + 1]? = some (.cells #[.int .u16 ia, .int .i64 na, .int .u8 a0, .int .u8 a1, .int .u8 a2, .int .u8 a3, .int .u8 a4, .int .u8 a5, .int .u8 a6, .int .u8 a7, .bool qa, .int .u16 ik, .int .i64 nk, .int .u8 k0, .int .u8 k1, .int .u8 k2, .int .u8 k3, .int .u8 k4, .int .u8 k5, .int .u8 k6, .int .u8 k7, .bool qk, .int .u16 ig, .int .i64 ng, .int .u8 g0, .int .u8 g1, .int .u8 g2, .int .u8 g3, .int .u8 g4, .int .u8 g5, .int .u8 g6, .int .u8 g7, .bool qg] 25 (0, 0))) ∧ Aside0 (Below w.heap.size w wr)) (fun j _ => 3 - (intOf j).toNat)
  case atStart =>
    refine ⟨0, Nat.zero_le _, rfl, ⟨?_⟩, ⟨?_⟩⟩
    · exact two_new2 w5 _ _ 0
    · exact (HB5.out.alloc HB5.out.size _).alloc (by have := HB5.out.size; simp; omega) _
  case round =>
    obtain ⟨k, hk, rfl, HS, HW⟩ := hrel
    clear a'0 a'1 a'2 a'3 a'4 a'5 a'6 a'7 a'8 a'9 a'10 d'0 d'1 d'2 d'3 d'4 d'5 d'6 d'7 d'8 d'9 d'10 k'0 k'1 k'2 k'3 k'4 k'5 k'6 k'7 k'8 k'9 k'10 f'0 f'1 f'2 f'3 f'4 f'5 f'6 f'7 f'8 f'9 f'10
    by_cases hlt : k < 3
    · obtain ⟨ix, nx, x0, x1, x2, x3, x4, x5, x6, x7, qx, hwx, c0, c1, c2, c3, c4, c5, c6, c7, c8, c9, c10⟩ := trip HS.out (mk_wf HM.out hi HZ.out) (ask_wf HM2.out hi) HWF.out k hlt
      have HWX := Aside0.mk hwx
      obtain ⟨r, hr⟩ := right_ex ⟨ix, nx, [x0, x1, x2, x3, x4, x5, x6, x7], qx⟩
      have HR := Aside0.mk hr
      clear hwx hr
      go_upto_region 17 with (first
        | (go_at_call 10; refine (fwrite_of ix nx x0 x1 x2 x3 x4 x5 x6 x7 qx _ HWX.out).mono ?_; rintro e u1 ⟨t, kt, rfl, hwr, hb⟩; have HWR := Aside0.mk hwr; have HX1 := Aside0.mk (after_call hb).1; have HS1 := Aside0.mk (blk_below (blk_alloc HS.out _) hb); have HW1 := Aside0.mk (HW.out.trans ((after_call hb).2.mono HW.out.size)); clear hwr hb; obtain ⟨d0, d1, d2, d3, d4, d5, d6, d7, d8, d9, d10, _⟩ := fm_lit HX1.out)
        | (go_at_call 19; refine (rwrite_of ix nx x0 x1 x2 x3 x4 x5 x6 x7 qx HWR.out _ HWX.out).mono ?_; rintro e u2 ⟨rfl, hb⟩; have HX2 := Aside0.mk (blk_below HX1.out hb); have HS2 := Aside0.mk (blk_below HS1.out hb); have HW2 := Aside0.mk (HW1.out.trans (hb.mono HW1.out.size)); clear hb d0 d1 d2 d3 d4 d5 d6 d7 d8 d9 d10; obtain ⟨d0, d1, d2, d3, d4, d5, d6, d7, d8, d9, d10, _⟩ := fm_lit HX2.out)
        | (go_at_call 20; refine (fdata_any ix nx x0 x1 x2 x3 x4 x5 x6 x7 qx _).mono ?_; rintro e u3 ⟨v, l, rfl, hdo, hown, hb⟩; have HDO := Aside0.mk hdo; have hl8 : l.length ≤ 8 := data_le hdo rfl; have HX3 := Aside0.mk (blk_below HX2.out hb); have HS3 := Aside0.mk (blk_below HS2.out hb); have HW3 := Aside0.mk (HW2.out.trans (hb.mono HW2.out.size)); obtain ⟨Ay, cy, rfl, hly, hCy⟩ := Kd.R_reads hown; have HOY := Aside0.mk hown; have HCY := Aside0.mk hCy; clear hdo hb d0 d1 d2 d3 d4 d5 d6 d7 d8 d9 d10 hown hCy))
      obtain ⟨d0, d1, d2, d3, d4, d5, d6, d7, d8, d9, d10⟩ := held11 HX3.out
      have hq : (t.toList == t.toList) = true := beq_self_eq_true _
      have hS0 : Below u3.heap.size u3 u3 := Below.refl _ _
      clear c0 c1 c2 c3 c4 c5 c6 c7 c8 c9 c10
      go_region_held3 (fun X => Below u3.heap.size u3 X) (first | assumption | exact below_step (by assumption) (by assumption) | exact below_drew (by assumption))
        (first
          | (go_at_call 11; with_reducible refine (fright_of ix nx x0 x1 x2 x3 x4 x5 x6 x7 qx HR.out _).mono ?_; rintro e w7 ⟨rfl, hb⟩)
          | (go_at_call 21; with_reducible refine (rright_of ix nx x0 x1 x2 x3 x4 x5 x6 x7 qx HR.out _).mono ?_; rintro e w7 ⟨rfl, hb⟩)
          | (go_at_call 22; with_reducible refine (rdata_any ix nx x0 x1 x2 x3 x4 x5 x6 x7 qx _).mono ?_; rintro e w8 ⟨v2, l2, rfl, hdo2, hR2, hb⟩; obtain rfl := data_one HDO.out hdo2; obtain ⟨A2, c2, rfl, hlc2, hC2⟩ := Kd.R_reads hR2; clear hdo2 hR2)
          | (go_at_call 18; refine (same_any Ay A2 cy c2 _ _ (Kd.C_below HCY.out (by assumption)) hC2).mono ?_; rintro e w9 ⟨rfl, rfl⟩))
      go_wp2
      have HY0 := Aside0.mk (show 0 < l.length → ∃ gy cur, Ay = some ⟨gy, 0, none⟩ ∧ u2.heap.size ≤ gy ∧ u3.heap[gy]? = some (.cells cur 5 (0, 0)) ∧ l.length ≤ cur.size from fun h0 => own_row HOY.out h0)
      have hgs : w5.heap.size + 1 < u2.heap.size := blk_lt HS2.out
      have hgw := HW2.out.size
      go_loopw [25] (fun j wr => ∃ q : Nat, q ≤ l.length ∧ j = .int .i64 q ∧ Aside0 (0 < l.length → ∃ gy cur, Ay = some ⟨gy, 0, none⟩ ∧ u2.heap.size ≤ gy ∧ wr.heap[gy]? = some (.cells cur 5 (0, 0)) ∧ l.length ≤ cur.size) ∧ Aside0 (wr.heap[w5.heap.size + 1]? = some (.cells #[.int .u16 ia, .int .i64 na, .int .u8 a0, .int .u8 a1, .int .u8 a2, .int .u8 a3, .int .u8 a4, .int .u8 a5, .int .u8 a6, .int .u8 a7, .bool qa, .int .u16 ik, .int .i64 nk, .int .u8 k0, .int .u8 k1, .int .u8 k2, .int .u8 k3, .int .u8 k4, .int .u8 k5, .int .u8 k6, .int .u8 k7, .bool qk, .int .u16 ig, .int .i64 ng, .int .u8 g0, .int .u8 g1, .int .u8 g2, .int .u8 g3, .int .u8 g4, .int .u8 g5, .int .u8 g6, .int .u8 g7, .bool qg] 25 (0, 0))) ∧ Aside0 (Below w.heap.size w wr)) (fun j _ => l.length - (intOf j).toNat)
      case atStart =>
        refine ⟨0, Nat.zero_le _, rfl, ⟨fun h0 => ?_⟩, ⟨blk_below HS3.out (by assumption)⟩, ⟨HW3.out.trans (Below.mono (B := u3.heap.size) (by assumption) HW3.out.size)⟩⟩
        obtain ⟨gy, cur, e1, e2, e3, e4⟩ := HY0.out h0
        exact ⟨gy, cur, e1, e2, blk_below e3 (by assumption), e4⟩
      case round =>
        obtain ⟨q, hq1, rfl, HY, HSq, HWq⟩ := hrel
        by_cases hqt : q < l.length
        · obtain ⟨gy, cur, rfl, hge, hg2, hsz⟩ := HY.out (by omega)
          have hcl := blk_cell hg2 q
          rw [Array.getElem?_eq_getElem (by omega)] at hcl
          have hfr := blk_frozen hg2 q
          go_wp2
          refine ⟨⟨q + 1, by omega, by simp, ⟨fun _ => ⟨gy, _, rfl, hge, blk_set hg2 q _, by simp; omega⟩⟩, ⟨blk_far HSq.out (by simp; omega) _⟩, ⟨HWq.out.setCell (by simp; omega) _⟩⟩, by simp [intOf]; omega⟩
        · obtain rfl : q = l.length := by omega
          go_wp2
          refine ⟨⟨k + 1, by omega, by simp, HSq, HWq⟩, by simp [intOf]; omega⟩
    · obtain rfl : k = 3 := by omega
      go_wp2_with (first
        | (go_at_call 9; refine (works_any _).mono ?_; rintro e w7 ⟨rfl, hb⟩))
      go_ret
      exact ⟨rfl, HW.out.trans (hb.mono HW.out.size)⟩
set_option maxRecDepth 100000 in
theorem makes_all (i : Int) (A : Option Addr) (c : Nat) (zs : List Int) (n : Int) (ig ng g0 g1 g2 g3 g4 g5 g6 g7 : Int) (qg : Bool) (w : World) (hC : kB.C w A zs.length zs) (hi : 0 ≤ i) (hz : ∀ x ∈ zs, 0 ≤ x ∧ x < 256) (hf : Wf ⟨ig, ng, [g0, g1, g2, g3, g4, g5, g6, g7], qg⟩) :
    Calls Tryd.prog 5 #[.int .u16 i, .slice A zs.length c, .int .i64 n, .agg #[.int .u16 ig, .int .i64 ng, .int .u8 g0, .int .u8 g1, .int .u8 g2, .int .u8 g3, .int .u8 g4, .int .u8 g5, .int .u8 g6, .int .u8 g7, .bool qg]] w fun e w' => e = .returned (.bool true) ∧ Below w.heap.size w w' := by
  by_cases hs : zs.length ≤ 1000
  · exact makes_any i A c zs n ig ng g0 g1 g2 g3 g4 g5 g6 g7 qg w hC hi hz hf hs
  · go_enter Tryd.func5, Tryd.ntmps5
    go_wp2
    go_ret
    exact ⟨rfl, below_alloc (Below.refl _ _) _⟩
end Go.Proofs.YtmgabmcfgnlpfaaDoor.Frm
