/- FrameBack: there and back; which goes first is an order. -/
import Derived.Test.YtmgabmcfgnlpfaaDoorSmb
import Derived.Deep.Cut
import Derived.Deep.RegionHeld3
set_option linter.unusedSimpArgs false
set_option linter.unusedVariables false
namespace Go.Proofs.YtmgabmcfgnlpfaaDoor.Frm
open Go.RowKit Go.Proofs.YtmgabmcfgnlpfaaDoorW.PrintWords Go.Proofs.YtmgabmcfgnlpfaaDoorW.PrintMore Go.Proofs.YtmgabmcfgnlpfaaDoorW.PrintLast

theorem bef_self (i : Int) (b : Bool) : bef i b i b = false := by simp [bef]
theorem bef_anti {i i' : Int} {b b' : Bool} (h : bef i b i' b' = true) : bef i' b' i b = false := by
  unfold bef at h ⊢
  simp only [Bool.or_eq_true, decide_eq_true_eq, Bool.and_eq_true, Bool.not_eq_true', Bool.or_eq_false_iff, decide_eq_false_iff_not, Bool.and_eq_false_iff] at h ⊢
  rcases h with h | ⟨⟨h1, h2⟩, h3⟩
  · exact ⟨by omega, .inl (.inl (by omega))⟩
  · exact ⟨by omega, .inr h2⟩
theorem bef_trans {i i' i'' : Int} {b b' b'' : Bool} (h : bef i b i' b' = true) (k : bef i' b' i'' b'' = true) : bef i b i'' b'' = true := by
  unfold bef at h k ⊢
  simp only [Bool.or_eq_true, decide_eq_true_eq, Bool.and_eq_true, Bool.not_eq_true'] at h k ⊢
  rcases h with h | ⟨⟨h1, h2⟩, h3⟩
  · rcases k with k | ⟨⟨k1, k2⟩, k3⟩
    · exact .inl (by omega)
    · exact .inl (by omega)
  · rcases k with k | ⟨⟨k1, k2⟩, k3⟩
    · exact .inl (by omega)
    · rw [h3] at k2
      simp at k2
theorem same_fm {i n x0 x1 x2 x3 x4 x5 x6 x7 : Int} {b : Bool} {i' n' y0 y1 y2 y3 y4 y5 y6 y7 : Int} {b' : Bool} (h : (⟨i, n, [x0, x1, x2, x3, x4, x5, x6, x7], b⟩ : Fm) = ⟨i', n', [y0, y1, y2, y3, y4, y5, y6, y7], b'⟩) :
    i = i' ∧ n = n' ∧ x0 = y0 ∧ x1 = y1 ∧ x2 = y2 ∧ x3 = y3 ∧ x4 = y4 ∧ x5 = y5 ∧ x6 = y6 ∧ x7 = y7 ∧ b = b' := by
  simp only [Fm.mk.injEq, List.cons.injEq, and_true] at h
  obtain ⟨h1, h2, ⟨h3, h4, h5, h6, h7, h8, h9, h10⟩, h11⟩ := h
  exact ⟨h1, h2, h3, h4, h5, h6, h7, h8, h9, h10, h11⟩
set_option maxHeartbeats 2000000 in
set_option maxRecDepth 100000 in
theorem back_any (ix nx x0 x1 x2 x3 x4 x5 x6 x7 : Int) (qx : Bool) (iy ny y0 y1 y2 y3 y4 y5 y6 y7 : Int) (qy : Bool) (iz nz z0 z1 z2 z3 z4 z5 z6 z7 : Int) (qz : Bool) (s : ByteArray) (w : World) (hx : Wf ⟨ix, nx, [x0, x1, x2, x3, x4, x5, x6, x7], qx⟩) (hs : s.size ≤ 1000) :
    Calls Tryd.prog 4 #[.agg #[.int .u16 ix, .int .i64 nx, .int .u8 x0, .int .u8 x1, .int .u8 x2, .int .u8 x3, .int .u8 x4, .int .u8 x5, .int .u8 x6, .int .u8 x7, .bool qx], .agg #[.int .u16 iy, .int .i64 ny, .int .u8 y0, .int .u8 y1, .int .u8 y2, .int .u8 y3, .int .u8 y4, .int .u8 y5, .int .u8 y6, .int .u8 y7, .bool qy], .agg #[.int .u16 iz, .int .i64 nz, .int .u8 z0, .int .u8 z1, .int .u8 z2, .int .u8 z3, .int .u8 z4, .int .u8 z5, .int .u8 z6, .int .u8 z7, .bool qz], .string s] w fun e w' => e = .returned (.bool true) ∧ Below w.heap.size w w' := by
  have HX := Aside0.mk hx
  clear hx
  go_enter Tryd.func4, Tryd.ntmps4
  go_upto_region 1 with (fail)
  go_cut [17] from 15 (fun s17 wc => s17 = .bool false ∧ Aside0 (wc.heap[w.heap.size]? = some (.cells #[.int .u16 ix, .int .i64 nx, .int .u8 x0, .int .u8 x1, .int .u8 x2, .int .u8 x3, .int .u8 x4, .int .u8 x5, .int .u8 x6, .int .u8 x7, .bool qx] 25 (0, 0))) ∧ Aside0 (wc.heap[w.heap.size + 1]? = some (.cells #[.int .u16 iy, .int .i64 ny, .int .u8 y0, .int .u8 y1, .int .u8 y2, .int .u8 y3, .int .u8 y4, .int .u8 y5, .int .u8 y6, .int .u8 y7, .bool qy] 25 (0, 0))) ∧ Aside0 (wc.heap[w.heap.size + 1 + 1]? = some (.cells #[.int .u16 iz, .int .i64 nz, .int .u8 z0, .int .u8 z1, .int .u8 z2, .int .u8 z3, .int .u8 z4, .int .u8 z5, .int .u8 z6, .int .u8 z7, .bool qz] 25 (0, 0))) ∧ Aside0 (Below w.heap.size w wc))
  case first =>
    go_wp2
    go_meet
    case rel =>
      refine ⟨by simp; omega, ⟨?_⟩, ⟨?_⟩, ⟨?_⟩, ⟨?_⟩⟩
      · exact blk_alloc (blk_alloc (World.alloc_heap_new w _) _) _
      · exact blk_alloc (two_new2 w _ _ 0) _
      · have h := two_new2 (w.alloc (.cells #[.int .u16 ix, .int .i64 nx, .int .u8 x0, .int .u8 x1, .int .u8 x2, .int .u8 x3, .int .u8 x4, .int .u8 x5, .int .u8 x6, .int .u8 x7, .bool qx] 25)) (.cells #[.int .u16 iy, .int .i64 ny, .int .u8 y0, .int .u8 y1, .int .u8 y2, .int .u8 y3, .int .u8 y4, .int .u8 y5, .int .u8 y6, .int .u8 y7, .bool qy] 25) (.cells #[.int .u16 iz, .int .i64 nz, .int .u8 z0, .int .u8 z1, .int .u8 z2, .int .u8 z3, .int .u8 z4, .int .u8 z5, .int .u8 z6, .int .u8 z7, .bool qz] 25) 0
        rwa [show (w.alloc (.cells #[.int .u16 ix, .int .i64 nx, .int .u8 x0, .int .u8 x1, .int .u8 x2, .int .u8 x3, .int .u8 x4, .int .u8 x5, .int .u8 x6, .int .u8 x7, .bool qx] 25)).heap.size = w.heap.size + 1 by simp] at h
      · exact (two_below w _ _ 0).alloc (by simp; omega) _
  case rest =>
    obtain ⟨rfl, HF, HG, HH, HW⟩ := hcut
    obtain ⟨c0, c1, c2, c3, c4, c5, c6, c7, c8, c9, c10, _⟩ := fm_lit HF.out
    go_upto_region 5 with (first
      | (go_at_call 10; refine (fwrite_of ix nx x0 x1 x2 x3 x4 x5 x6 x7 qx _ HX.out).mono ?_; rintro e w1 ⟨t, k, rfl, hwr, hb⟩; have HWR := Aside0.mk hwr; have HF1 := Aside0.mk (blk_below HF.out hb); have HG1 := Aside0.mk (blk_below HG.out hb); have HH1 := Aside0.mk (blk_below HH.out hb); have HW1 := Aside0.mk (HW.out.trans (hb.mono HW.out.size)); have hts := wr_size HX.out hwr; clear hwr hb c0 c1 c2 c3 c4 c5 c6 c7 c8 c9 c10)
      | (go_at_call 7; refine (read_any t _ (by omega)).mono ?_; rintro e w2 ⟨⟨⟨iu, nu, du, qu⟩, k2, rfl, hrd⟩, hb⟩; obtain ⟨u0', u1', u2', u3', u4', u5', u6', u7', rfl⟩ := eight (reads_len hrd); have HRD := Aside0.mk hrd; have HF2 := Aside0.mk (blk_below HF1.out hb); have HG2 := Aside0.mk (blk_below HG1.out hb); have HH2 := Aside0.mk (blk_below HH1.out hb); have HW2 := Aside0.mk (HW1.out.trans (hb.mono HW1.out.size)); clear hb hrd; rw [lit_cells]))
    have hlt2 : w.heap.size < w2.heap.size := blk_lt HF2.out
    obtain ⟨c0, c1, c2, c3, c4, c5, c6, c7, c8, c9, c10, _⟩ := fm_lit HF2.out
    go_cut [45] from 15 (fun s45 wc => s45 = .bool false ∧ Aside0 (wc.heap[w.heap.size]? = some (.cells #[.int .u16 ix, .int .i64 nx, .int .u8 x0, .int .u8 x1, .int .u8 x2, .int .u8 x3, .int .u8 x4, .int .u8 x5, .int .u8 x6, .int .u8 x7, .bool qx] 25 (0, 0))) ∧ Aside0 (wc.heap[w.heap.size + 1]? = some (.cells #[.int .u16 iy, .int .i64 ny, .int .u8 y0, .int .u8 y1, .int .u8 y2, .int .u8 y3, .int .u8 y4, .int .u8 y5, .int .u8 y6, .int .u8 y7, .bool qy] 25 (0, 0))) ∧ Aside0 (wc.heap[w.heap.size + 1 + 1]? = some (.cells #[.int .u16 iz, .int .i64 nz, .int .u8 z0, .int .u8 z1, .int .u8 z2, .int .u8 z3, .int .u8 z4, .int .u8 z5, .int .u8 z6, .int .u8 z7, .bool qz] 25 (0, 0))) ∧ Aside0 (Below w.heap.size w wc))
    case first =>
      have heq := eq_self
      rcases HWR.out with ⟨hrt, ht, hk⟩ | ⟨hrt, ht, hk⟩
      · have hone := reads_one HRD.out (.inl ⟨HX.out, hrt, by rw [ht]; rfl, rfl⟩)
        obtain ⟨rfl, rfl, rfl, rfl, rfl, rfl, rfl, rfl, rfl, rfl, rfl⟩ := same_fm hone.1.symm
        have hk2 := hone.2
        subst hk2
        subst hk
        have HRT := Aside0.mk hrt
        clear hrt ht hone
        go_wp2_with (go_at_call 11; refine (fright_any ix nx x0 x1 x2 x3 x4 x5 x6 x7 qx _).mono ?_; rintro e w3 ⟨(⟨rfl, hyes⟩ | ⟨rfl, hno⟩), hb⟩; rotate_left; exact absurd HRT.out hno; have HF3 := Aside0.mk (blk_below (blk_alloc HF2.out _) hb); have HG3 := Aside0.mk (blk_below (blk_alloc HG2.out _) hb); have HH3 := Aside0.mk (blk_below (blk_alloc HH2.out _) hb); have HU3 := Aside0.mk (after_call hb).1; have HW3 := Aside0.mk (HW2.out.trans ((after_call hb).2.mono HW2.out.size)); clear hb c0 c1 c2 c3 c4 c5 c6 c7 c8 c9 c10; obtain ⟨c0, c1, c2, c3, c4, c5, c6, c7, c8, c9, c10, _⟩ := fm_lit HF3.out; obtain ⟨d0, d1, d2, d3, d4, d5, d6, d7, d8, d9, d10, _⟩ := fm_lit HU3.out)
        go_meet
        case rel => exact ⟨rfl, HF3, HG3, HH3, HW3⟩
      · subst hk
        have HRT := Aside0.mk hrt
        clear hrt ht
        go_wp2_with (go_at_call 11; refine (fright_any ix nx x0 x1 x2 x3 x4 x5 x6 x7 qx _).mono ?_; rintro e w3 ⟨(⟨rfl, hyes⟩ | ⟨rfl, hno⟩), hb⟩; exact absurd hyes HRT.out; have HF3 := Aside0.mk (blk_below (blk_alloc HF2.out _) hb); have HG3 := Aside0.mk (blk_below (blk_alloc HG2.out _) hb); have HH3 := Aside0.mk (blk_below (blk_alloc HH2.out _) hb); have HU3 := Aside0.mk (after_call hb).1; have HW3 := Aside0.mk (HW2.out.trans ((after_call hb).2.mono HW2.out.size)); clear hb c0 c1 c2 c3 c4 c5 c6 c7 c8 c9 c10; obtain ⟨c0, c1, c2, c3, c4, c5, c6, c7, c8, c9, c10, _⟩ := fm_lit HF3.out; obtain ⟨d0, d1, d2, d3, d4, d5, d6, d7, d8, d9, d10, _⟩ := fm_lit HU3.out)
        go_meet
        case rel => exact ⟨rfl, HF3, HG3, HH3, HW3⟩
    case rest =>
      obtain ⟨rfl, HF, HG, HH, HW⟩ := hcut
      go_upto_region 9 with (first
        | (go_at_call 7; refine (read_any s _ (by omega)).mono ?_; rintro e w4 ⟨⟨⟨iv, nv, dv, qv⟩, k4, rfl, hrd⟩, hb⟩; obtain ⟨v0', v1', v2', v3', v4', v5', v6', v7', rfl⟩ := eight (reads_len hrd); have HRD := Aside0.mk hrd; have HF4 := Aside0.mk (blk_below HF.out hb); have HG4 := Aside0.mk (blk_below HG.out hb); have HH4 := Aside0.mk (blk_below HH.out hb); have HW4 := Aside0.mk (HW.out.trans (hb.mono HW.out.size)); clear hb hrd; rw [lit_cells])
        | (go_at_call 10; refine (fwrite_of iv nv v0' v1' v2' v3' v4' v5' v6' v7' qv _ (reads_wf HRD.out)).mono ?_; rintro e w5 ⟨t5, k5, rfl, hwr, hb⟩; have HWR := Aside0.mk hwr; have HF5 := Aside0.mk (blk_below (blk_alloc HF4.out _) hb); have HG5 := Aside0.mk (blk_below (blk_alloc HG4.out _) hb); have HH5 := Aside0.mk (blk_below (blk_alloc HH4.out _) hb); have HV5 := Aside0.mk (after_call hb).1; have HW5 := Aside0.mk (HW4.out.trans ((after_call hb).2.mono HW4.out.size)); clear hwr hb))
      obtain ⟨d0, d1, d2, d3, d4, d5, d6, d7, d8, d9, d10, _⟩ := fm_lit HV5.out
      go_cut [71] from 15 (fun s71 wc => s71 = .bool false ∧ Aside0 (wc.heap[w.heap.size]? = some (.cells #[.int .u16 ix, .int .i64 nx, .int .u8 x0, .int .u8 x1, .int .u8 x2, .int .u8 x3, .int .u8 x4, .int .u8 x5, .int .u8 x6, .int .u8 x7, .bool qx] 25 (0, 0))) ∧ Aside0 (wc.heap[w.heap.size + 1]? = some (.cells #[.int .u16 iy, .int .i64 ny, .int .u8 y0, .int .u8 y1, .int .u8 y2, .int .u8 y3, .int .u8 y4, .int .u8 y5, .int .u8 y6, .int .u8 y7, .bool qy] 25 (0, 0))) ∧ Aside0 (wc.heap[w.heap.size + 1 + 1]? = some (.cells #[.int .u16 iz, .int .i64 nz, .int .u8 z0, .int .u8 z1, .int .u8 z2, .int .u8 z3, .int .u8 z4, .int .u8 z5, .int .u8 z6, .int .u8 z7, .bool qz] 25 (0, 0))) ∧ Aside0 (Below w.heap.size w wc))
      case first =>
        rcases HRD.out with ⟨hwf, hrt, hstr, hk⟩ | ⟨_, _, hk⟩
        · have HRT := Aside0.mk hrt
          rcases HWR.out with ⟨_, ht, hk5⟩ | ⟨hno, _, _⟩
          · subst hk
            subst hk5
            have hts : (t5.toList == s.toList) = true := str_beq (by rw [ht, hstr, str_of])
            clear ht hstr hwf hrt
            go_wp2_with (go_at_call 11; refine (fright_any iv nv v0' v1' v2' v3' v4' v5' v6' v7' qv _).mono ?_; rintro e w6 ⟨(⟨rfl, hyes⟩ | ⟨rfl, hno⟩), hb⟩; rotate_left; exact absurd HRT.out hno; have HF6 := Aside0.mk (blk_below HF5.out hb); have HG6 := Aside0.mk (blk_below HG5.out hb); have HH6 := Aside0.mk (blk_below HH5.out hb); have HW6 := Aside0.mk (HW5.out.trans (hb.mono HW5.out.size)); clear hb)
            go_meet
            case rel => exact ⟨rfl, HF6, HG6, HH6, HW6⟩
          · exact absurd hrt hno
        · subst hk
          go_wp2
          go_meet
          case rel => exact ⟨rfl, HF5, HG5, HH5, HW5⟩
      case rest =>
        obtain ⟨rfl, HF, HG, HH, HW⟩ := hcut
        clear d0 d1 d2 d3 d4 d5 d6 d7 d8 d9 d10
        obtain ⟨c0, c1, c2, c3, c4, c5, c6, c7, c8, c9, c10⟩ := held11 HF.out
        obtain ⟨d0, d1, d2, d3, d4, d5, d6, d7, d8, d9, d10⟩ := held11 HG.out
        have Q0 := Aside0.mk (bef_self ix qx)
        have hS0 : Below wc.heap.size wc wc := Below.refl _ _
        rcases hq1 : bef ix qx iy qy with _ | _
        · have Q1 := Aside0.mk hq1
          clear hq1
          go_wp2
          refine wp_region_held_drew (S := fun X => Below wc.heap.size wc X) (by kernel_rfl) (below_drew hS0) (fun hHeld => ?_)
          refine wpAnyH_take (i := 0) (oi := _) (v := ?_) rfl (by kernel_rfl) (by kernel_rfl) (by kernel_rfl) (fun _ _ _ h => h) (Or.inl ⟨rfl, ?_⟩) hHeld ?_
          rotate_left
          · intro w hSw
            go_simp
            try exact rfl
          try simp only [Act.put, List.setIfInBounds_toArray, List.set_cons_zero, List.set_cons_succ]
          refine wpAnyH_take (i := 1) (oi := _) (v := ?_) rfl (by kernel_rfl) (by kernel_rfl) (by kernel_rfl) (fun _ _ _ h => h) (Or.inl ⟨rfl, ?_⟩) hHeld ?_
          rotate_left
          · intro w hSw
            go_simp
            try exact rfl
          try simp only [Act.put, List.setIfInBounds_toArray, List.set_cons_zero, List.set_cons_succ]
          refine wpAnyH_take (i := 3) (oi := _) (v := ?_) rfl (by kernel_rfl) (by kernel_rfl) (by kernel_rfl) (fun _ _ _ h => h) (Or.inl ⟨rfl, ?_⟩) hHeld ?_
          rotate_left
          · intro w hSw
            go_simp
            try exact rfl
          try simp only [Act.put, List.setIfInBounds_toArray, List.set_cons_zero, List.set_cons_succ]
          refine wpAnyH_take (i := 4) (oi := _) (v := ?_) rfl (by kernel_rfl) (by kernel_rfl) (by kernel_rfl) (fun _ _ _ h => h) (Or.inl ⟨rfl, ?_⟩) hHeld ?_
          rotate_left
          · intro w hSw
            go_simp
            try exact rfl
          try simp only [Act.put, List.setIfInBounds_toArray, List.set_cons_zero, List.set_cons_succ]
          refine wpAnyH_ready (rs := [2]) (by kernel_rfl) (by simp) ?_
          refine AllReadyH.cons (o := _) rfl (fun K hK => ?_) AllReadyH.nil
          go_simp
          with_reducible refine (fbefore_any ix nx x0 x1 x2 x3 x4 x5 x6 x7 qx iy ny y0 y1 y2 y3 y4 y5 y6 y7 qy _).mono ?_
          rintro e w7 ⟨rfl, hb⟩
          rw [Q1.out]
          refine hK.out _ _ (below_step hHeld hb) (fun hHeld' => ?_)
          clear hb hK K
          try simp only [Act.put, List.setIfInBounds_toArray, List.set_cons_zero, List.set_cons_succ]
          refine wpAnyH_ready (rs := [5]) (by kernel_rfl) (by simp) ?_
          refine AllReadyH.cons (o := _) rfl (fun K hK => ?_) AllReadyH.nil
          go_simp
          with_reducible refine (rbefore_any ix nx x0 x1 x2 x3 x4 x5 x6 x7 qx iy ny y0 y1 y2 y3 y4 y5 y6 y7 qy _).mono ?_
          rintro e w7 ⟨rfl, hb⟩
          rw [Q1.out]
          refine hK.out _ _ (below_step hHeld' hb) (fun hHeld'' => ?_)
          clear hb hK K
          try simp only [Act.put, List.setIfInBounds_toArray, List.set_cons_zero, List.set_cons_succ]
          refine wpAnyH_take (i := 6) (oi := _) (v := ?_) rfl (by kernel_rfl) (by kernel_rfl) (by kernel_rfl) (fun _ _ _ h => h) (Or.inl ⟨rfl, ?_⟩) hHeld'' ?_
          rotate_left
          · intro w hSw
            go_simp
            try exact rfl
          try simp only [Act.put, List.setIfInBounds_toArray, List.set_cons_zero, List.set_cons_succ]
          refine wpAnyH_take (i := 7) (oi := _) (v := ?_) rfl (by kernel_rfl) (by kernel_rfl) (by kernel_rfl) (fun _ _ _ h => h) (Or.inl ⟨rfl, ?_⟩) hHeld'' ?_
          rotate_left
          · intro w hSw
            go_simp
            try exact rfl
          try simp only [Act.put, List.setIfInBounds_toArray, List.set_cons_zero, List.set_cons_succ]
          refine wpAnyH_take (i := 8) (oi := _) (v := ?_) rfl (by kernel_rfl) (by kernel_rfl) (by kernel_rfl) (fun _ _ _ h => h) (Or.inl ⟨rfl, ?_⟩) hHeld'' ?_
          rotate_left
          · intro w hSw
            go_simp
            try exact rfl
          try simp only [Act.put, List.setIfInBounds_toArray, List.set_cons_zero, List.set_cons_succ]
          refine wpAnyH_take (i := 9) (oi := _) (v := ?_) rfl (by kernel_rfl) (by kernel_rfl) (by kernel_rfl) (fun _ _ _ h => h) (Or.inl ⟨rfl, ?_⟩) hHeld'' ?_
          rotate_left
          · intro w hSw
            go_simp
            try exact rfl
          try simp only [Act.put, List.setIfInBounds_toArray, List.set_cons_zero, List.set_cons_succ]
          refine wpAnyH_ready (rs := [10]) (by kernel_rfl) (by simp) ?_
          refine AllReadyH.cons (o := _) rfl (fun K hK => ?_) AllReadyH.nil
          go_simp
          with_reducible refine (fbefore_any ix nx x0 x1 x2 x3 x4 x5 x6 x7 qx ix nx x0 x1 x2 x3 x4 x5 x6 x7 qx _).mono ?_
          rintro e w7 ⟨rfl, hb⟩
          rw [Q0.out]
          refine hK.out _ _ (below_step hHeld'' hb) (fun hHeld''' => ?_)
          clear hb hK K
          try simp only [Act.put, List.setIfInBounds_toArray, List.set_cons_zero, List.set_cons_succ]
          refine wpAnyH_take (i := 11) (oi := _) (v := ?_) rfl (by kernel_rfl) (by kernel_rfl) (by kernel_rfl) (fun _ _ _ h => h) (Or.inl ⟨rfl, ?_⟩) hHeld''' ?_
          rotate_left
          · intro w hSw
            go_simp
            try exact rfl
          try simp only [Act.put, List.setIfInBounds_toArray, List.set_cons_zero, List.set_cons_succ]
          refine wpAnyH_take (i := 12) (oi := _) (v := ?_) rfl (by kernel_rfl) (by kernel_rfl) (by kernel_rfl) (fun _ _ _ h => h) (Or.inl ⟨rfl, ?_⟩) hHeld''' ?_
          rotate_left
          · intro w hSw
            go_simp
            try exact rfl
          try simp only [Act.put, List.setIfInBounds_toArray, List.set_cons_zero, List.set_cons_succ]
          refine wpAnyH_take (i := 13) (oi := _) (v := ?_) rfl (by kernel_rfl) (by kernel_rfl) (by kernel_rfl) (fun _ _ _ h => h) (Or.inl ⟨rfl, ?_⟩) hHeld''' ?_
          rotate_left
          · intro w hSw
            go_simp
            try exact rfl
          try simp only [Act.put, List.setIfInBounds_toArray, List.set_cons_zero, List.set_cons_succ]
          refine wpAnyH_take (i := 14) (oi := _) (v := ?_) rfl (by kernel_rfl) (by kernel_rfl) (by kernel_rfl) (fun _ _ _ h => h) (Or.inl ⟨rfl, ?_⟩) hHeld''' ?_
          rotate_left
          · intro w hSw
            go_simp
            try exact rfl
          try simp only [Act.put, List.setIfInBounds_toArray, List.set_cons_zero, List.set_cons_succ]
          refine wpAnyH_ready (rs := [15]) (by kernel_rfl) (by simp) ?_
          refine AllReadyH.cons (o := _) rfl (fun K hK => ?_) AllReadyH.nil
          go_simp
          with_reducible refine (fbefore_any ix nx x0 x1 x2 x3 x4 x5 x6 x7 qx iy ny y0 y1 y2 y3 y4 y5 y6 y7 qy _).mono ?_
          rintro e w7 ⟨rfl, hb⟩
          rw [Q1.out]
          refine hK.out _ _ (below_step hHeld''' hb) (fun hHeld'''' => ?_)
          clear hb hK K
          try simp only [Act.put, List.setIfInBounds_toArray, List.set_cons_zero, List.set_cons_succ]
          refine wpAnyH_take (i := 16) (oi := _) (v := ?_) rfl (by kernel_rfl) (by kernel_rfl) (by kernel_rfl) (fun _ _ _ h => h) (Or.inl ⟨rfl, ?_⟩) hHeld'''' ?_
          rotate_left
          · intro w hSw
            go_simp
            try exact rfl
          try simp only [Act.put, List.setIfInBounds_toArray, List.set_cons_zero, List.set_cons_succ]
          refine wpAnyH_take (i := 17) (oi := _) (v := undef) rfl (by kernel_rfl) (by kernel_rfl) (by kernel_rfl) (fun _ _ _ h => h) (Or.inr ⟨rfl, rfl⟩) hHeld'''' ?_
          try simp only [Act.put, List.setIfInBounds_toArray, List.set_cons_zero, List.set_cons_succ]
          refine wpAnyH_take (i := 18) (oi := _) (v := undef) rfl (by kernel_rfl) (by kernel_rfl) (by kernel_rfl) (fun _ _ _ h => h) (Or.inr ⟨rfl, rfl⟩) hHeld'''' ?_
          try simp only [Act.put, List.setIfInBounds_toArray, List.set_cons_zero, List.set_cons_succ]
          refine wpAnyH_ready (rs := [19]) (by kernel_rfl) (by simp) ?_
          refine AllReadyH.cons (o := _) rfl (fun K hK => ?_) AllReadyH.nil
          go_simp
          refine hK.out _ _ hHeld'''' (fun hHeld''''' => ?_)
          clear hK K
          try simp only [Act.put, List.setIfInBounds_toArray, List.set_cons_zero, List.set_cons_succ]
          refine wpAnyH_take (i := 20) (oi := _) (v := ?_) rfl (by kernel_rfl) (by kernel_rfl) (by kernel_rfl) (fun _ _ _ h => h) (Or.inl ⟨rfl, ?_⟩) hHeld''''' ?_
          rotate_left
          · intro w hSw
            go_simp
            try exact rfl
          try simp only [Act.put, List.setIfInBounds_toArray, List.set_cons_zero, List.set_cons_succ]
          refine wpAnyH_take (i := 21) (oi := _) (v := ?_) rfl (by kernel_rfl) (by kernel_rfl) (by kernel_rfl) (fun _ _ _ h => h) (Or.inl ⟨rfl, ?_⟩) hHeld''''' ?_
          rotate_left
          · intro w hSw
            go_simp
            try exact rfl
          try simp only [Act.put, List.setIfInBounds_toArray, List.set_cons_zero, List.set_cons_succ]
          refine wpAnyH_take (i := 22) (oi := _) (v := ?_) rfl (by kernel_rfl) (by kernel_rfl) (by kernel_rfl) (fun _ _ _ h => h) (Or.inl ⟨rfl, ?_⟩) hHeld''''' ?_
          rotate_left
          · intro w hSw
            go_simp
            try exact rfl
          try simp only [Act.put, List.setIfInBounds_toArray, List.set_cons_zero, List.set_cons_succ]
          refine wpAnyH_take (i := 23) (oi := _) (v := ?_) rfl (by kernel_rfl) (by kernel_rfl) (by kernel_rfl) (fun _ _ _ h => h) (Or.inl ⟨rfl, ?_⟩) hHeld''''' ?_
          rotate_left
          · intro w hSw
            go_simp
            try exact rfl
          try simp only [Act.put, List.setIfInBounds_toArray, List.set_cons_zero, List.set_cons_succ]
          refine wpAnyH_take (i := 24) (oi := _) (v := ?_) rfl (by kernel_rfl) (by kernel_rfl) (by kernel_rfl) (fun _ _ _ h => h) (Or.inl ⟨rfl, ?_⟩) hHeld''''' ?_
          rotate_left
          · intro w hSw
            go_simp
            try exact rfl
          try simp only [Act.put, List.setIfInBounds_toArray, List.set_cons_zero, List.set_cons_succ]
          refine wpAnyH_ready (rs := [25]) (by kernel_rfl) (by simp) ?_
          refine AllReadyH.cons (o := _) rfl (fun K hK => ?_) AllReadyH.nil
          go_simp
          with_reducible refine (fbefore_any ix nx x0 x1 x2 x3 x4 x5 x6 x7 qx iy ny y0 y1 y2 y3 y4 y5 y6 y7 qy _).mono ?_
          rintro e w7 ⟨rfl, hb⟩
          rw [Q1.out]
          refine hK.out _ _ (below_step hHeld''''' hb) (fun hHeld'''''' => ?_)
          clear hb hK K
          try simp only [Act.put, List.setIfInBounds_toArray, List.set_cons_zero, List.set_cons_succ]
          refine wpAnyH_take (i := 26) (oi := _) (v := ?_) rfl (by kernel_rfl) (by kernel_rfl) (by kernel_rfl) (fun _ _ _ h => h) (Or.inl ⟨rfl, ?_⟩) hHeld'''''' ?_
          rotate_left
          · intro w hSw
            go_simp
            try exact rfl
          try simp only [Act.put, List.setIfInBounds_toArray, List.set_cons_zero, List.set_cons_succ]
          refine wpAnyH_take (i := 27) (oi := _) (v := undef) rfl (by kernel_rfl) (by kernel_rfl) (by kernel_rfl) (fun _ _ _ h => h) (Or.inr ⟨rfl, rfl⟩) hHeld'''''' ?_
          try simp only [Act.put, List.setIfInBounds_toArray, List.set_cons_zero, List.set_cons_succ]
          refine wpAnyH_take (i := 28) (oi := _) (v := undef) rfl (by kernel_rfl) (by kernel_rfl) (by kernel_rfl) (fun _ _ _ h => h) (Or.inr ⟨rfl, rfl⟩) hHeld'''''' ?_
          try simp only [Act.put, List.setIfInBounds_toArray, List.set_cons_zero, List.set_cons_succ]
          refine wpAnyH_ready (rs := [29]) (by kernel_rfl) (by simp) ?_
          refine AllReadyH.cons (o := _) rfl (fun K hK => ?_) AllReadyH.nil
          go_simp
          refine hK.out _ _ hHeld'''''' (fun hHeld''''''' => ?_)
          clear hK K
          try simp only [Act.put, List.setIfInBounds_toArray, List.set_cons_zero, List.set_cons_succ]
          refine wpAnyH_take (i := 30) (oi := _) (v := ?_) rfl (by kernel_rfl) (by kernel_rfl) (by kernel_rfl) (fun _ _ _ h => h) (Or.inl ⟨rfl, ?_⟩) hHeld''''''' ?_
          rotate_left
          · intro w hSw
            go_simp
            try exact rfl
          try simp only [Act.put, List.setIfInBounds_toArray, List.set_cons_zero, List.set_cons_succ]
          refine wpAnyH_take (i := 31) (oi := _) (v := ?_) rfl (by kernel_rfl) (by kernel_rfl) (by kernel_rfl) (fun _ _ _ h => h) (Or.inl ⟨rfl, ?_⟩) hHeld''''''' ?_
          rotate_left
          · intro w hSw
            go_simp
            try exact rfl
          try simp only [Act.put, List.setIfInBounds_toArray, List.set_cons_zero, List.set_cons_succ]
          refine wpAnyH_take (i := 32) (oi := _) (v := undef) rfl (by kernel_rfl) (by kernel_rfl) (by kernel_rfl) (fun _ _ _ h => h) (Or.inr ⟨rfl, rfl⟩) hHeld''''''' ?_
          try simp only [Act.put, List.setIfInBounds_toArray, List.set_cons_zero, List.set_cons_succ]
          refine wpAnyH_take (i := 33) (oi := _) (v := undef) rfl (by kernel_rfl) (by kernel_rfl) (by kernel_rfl) (fun _ _ _ h => h) (Or.inr ⟨rfl, rfl⟩) hHeld''''''' ?_
          try simp only [Act.put, List.setIfInBounds_toArray, List.set_cons_zero, List.set_cons_succ]
          refine wpAnyH_ready (rs := [34]) (by kernel_rfl) (by simp) ?_
          refine AllReadyH.cons (o := _) rfl (fun K hK => ?_) AllReadyH.nil
          go_simp
          refine hK.out _ _ hHeld''''''' (fun hHeld'''''''' => ?_)
          clear hK K
          try simp only [Act.put, List.setIfInBounds_toArray, List.set_cons_zero, List.set_cons_succ]
          refine wpAnyH_take (i := 35) (oi := _) (v := undef) rfl (by kernel_rfl) (by kernel_rfl) (by kernel_rfl) (fun _ _ _ h => h) (Or.inr ⟨rfl, rfl⟩) hHeld'''''''' ?_
          try simp only [Act.put, List.setIfInBounds_toArray, List.set_cons_zero, List.set_cons_succ]
          refine wpAnyH_take (i := 36) (oi := _) (v := ?_) rfl (by kernel_rfl) (by kernel_rfl) (by kernel_rfl) (fun _ _ _ h => h) (Or.inl ⟨rfl, ?_⟩) hHeld'''''''' ?_
          rotate_left
          · intro w hSw
            go_simp
            try exact rfl
          try simp only [Act.put, List.setIfInBounds_toArray, List.set_cons_zero, List.set_cons_succ]
          refine wpAnyH_take (i := 37) (oi := _) (v := ?_) rfl (by kernel_rfl) (by kernel_rfl) (by kernel_rfl) (fun _ _ _ h => h) (Or.inl ⟨rfl, ?_⟩) hHeld'''''''' ?_
          rotate_left
          · intro w hSw
            go_simp
            try exact rfl
          try simp only [Act.put, List.setIfInBounds_toArray, List.set_cons_zero, List.set_cons_succ]
          refine wpAnyH_done (by kernel_rfl) ?_ _
          go_wp2_with (go_at_call 9; refine (works_any _).mono ?_; rintro e w8 ⟨rfl, hb8⟩)
          go_ret
          exact ⟨rfl, HW.out.trans ((hHeld''''''''.trans (hb8.mono hHeld''''''''.size)).mono HW.out.size)⟩
        · have Q2 := Aside0.mk (bef_anti hq1)
          rcases hq3 : bef iy qy iz qz with _ | _
          · have Q1 := Aside0.mk hq1
            have Q3 := Aside0.mk hq3
            clear hq1 hq3
            obtain ⟨g0, g1, g2, g3, g4, g5, g6, g7, g8, g9, g10⟩ := held11 HH.out
            go_wp2
            refine wp_region_held_drew (S := fun X => Below wc.heap.size wc X) (by kernel_rfl) (below_drew hS0) (fun hHeld => ?_)
            refine wpAnyH_take (i := 0) (oi := _) (v := ?_) rfl (by kernel_rfl) (by kernel_rfl) (by kernel_rfl) (fun _ _ _ h => h) (Or.inl ⟨rfl, ?_⟩) hHeld ?_
            rotate_left
            · intro w hSw
              go_simp
              try exact rfl
            try simp only [Act.put, List.setIfInBounds_toArray, List.set_cons_zero, List.set_cons_succ]
            refine wpAnyH_take (i := 1) (oi := _) (v := ?_) rfl (by kernel_rfl) (by kernel_rfl) (by kernel_rfl) (fun _ _ _ h => h) (Or.inl ⟨rfl, ?_⟩) hHeld ?_
            rotate_left
            · intro w hSw
              go_simp
              try exact rfl
            try simp only [Act.put, List.setIfInBounds_toArray, List.set_cons_zero, List.set_cons_succ]
            refine wpAnyH_take (i := 3) (oi := _) (v := ?_) rfl (by kernel_rfl) (by kernel_rfl) (by kernel_rfl) (fun _ _ _ h => h) (Or.inl ⟨rfl, ?_⟩) hHeld ?_
            rotate_left
            · intro w hSw
              go_simp
              try exact rfl
            try simp only [Act.put, List.setIfInBounds_toArray, List.set_cons_zero, List.set_cons_succ]
            refine wpAnyH_take (i := 4) (oi := _) (v := ?_) rfl (by kernel_rfl) (by kernel_rfl) (by kernel_rfl) (fun _ _ _ h => h) (Or.inl ⟨rfl, ?_⟩) hHeld ?_
            rotate_left
            · intro w hSw
              go_simp
              try exact rfl
            try simp only [Act.put, List.setIfInBounds_toArray, List.set_cons_zero, List.set_cons_succ]
            refine wpAnyH_ready (rs := [2]) (by kernel_rfl) (by simp) ?_
            refine AllReadyH.cons (o := _) rfl (fun K hK => ?_) AllReadyH.nil
            go_simp
            with_reducible refine (fbefore_any ix nx x0 x1 x2 x3 x4 x5 x6 x7 qx iy ny y0 y1 y2 y3 y4 y5 y6 y7 qy _).mono ?_
            rintro e w7 ⟨rfl, hb⟩
            rw [Q1.out]
            refine hK.out _ _ (below_step hHeld hb) (fun hHeld' => ?_)
            clear hb hK K
            try simp only [Act.put, List.setIfInBounds_toArray, List.set_cons_zero, List.set_cons_succ]
            refine wpAnyH_ready (rs := [5]) (by kernel_rfl) (by simp) ?_
            refine AllReadyH.cons (o := _) rfl (fun K hK => ?_) AllReadyH.nil
            go_simp
            with_reducible refine (rbefore_any ix nx x0 x1 x2 x3 x4 x5 x6 x7 qx iy ny y0 y1 y2 y3 y4 y5 y6 y7 qy _).mono ?_
            rintro e w7 ⟨rfl, hb⟩
            rw [Q1.out]
            refine hK.out _ _ (below_step hHeld' hb) (fun hHeld'' => ?_)
            clear hb hK K
            try simp only [Act.put, List.setIfInBounds_toArray, List.set_cons_zero, List.set_cons_succ]
            refine wpAnyH_take (i := 6) (oi := _) (v := ?_) rfl (by kernel_rfl) (by kernel_rfl) (by kernel_rfl) (fun _ _ _ h => h) (Or.inl ⟨rfl, ?_⟩) hHeld'' ?_
            rotate_left
            · intro w hSw
              go_simp
              try exact rfl
            try simp only [Act.put, List.setIfInBounds_toArray, List.set_cons_zero, List.set_cons_succ]
            refine wpAnyH_take (i := 7) (oi := _) (v := ?_) rfl (by kernel_rfl) (by kernel_rfl) (by kernel_rfl) (fun _ _ _ h => h) (Or.inl ⟨rfl, ?_⟩) hHeld'' ?_
            rotate_left
            · intro w hSw
              go_simp
              try exact rfl
            try simp only [Act.put, List.setIfInBounds_toArray, List.set_cons_zero, List.set_cons_succ]
            refine wpAnyH_take (i := 8) (oi := _) (v := ?_) rfl (by kernel_rfl) (by kernel_rfl) (by kernel_rfl) (fun _ _ _ h => h) (Or.inl ⟨rfl, ?_⟩) hHeld'' ?_
            rotate_left
            · intro w hSw
              go_simp
              try exact rfl
            try simp only [Act.put, List.setIfInBounds_toArray, List.set_cons_zero, List.set_cons_succ]
            refine wpAnyH_take (i := 9) (oi := _) (v := ?_) rfl (by kernel_rfl) (by kernel_rfl) (by kernel_rfl) (fun _ _ _ h => h) (Or.inl ⟨rfl, ?_⟩) hHeld'' ?_
            rotate_left
            · intro w hSw
              go_simp
              try exact rfl
            try simp only [Act.put, List.setIfInBounds_toArray, List.set_cons_zero, List.set_cons_succ]
            refine wpAnyH_ready (rs := [10]) (by kernel_rfl) (by simp) ?_
            refine AllReadyH.cons (o := _) rfl (fun K hK => ?_) AllReadyH.nil
            go_simp
            with_reducible refine (fbefore_any ix nx x0 x1 x2 x3 x4 x5 x6 x7 qx ix nx x0 x1 x2 x3 x4 x5 x6 x7 qx _).mono ?_
            rintro e w7 ⟨rfl, hb⟩
            rw [Q0.out]
            refine hK.out _ _ (below_step hHeld'' hb) (fun hHeld''' => ?_)
            clear hb hK K
            try simp only [Act.put, List.setIfInBounds_toArray, List.set_cons_zero, List.set_cons_succ]
            refine wpAnyH_take (i := 11) (oi := _) (v := ?_) rfl (by kernel_rfl) (by kernel_rfl) (by kernel_rfl) (fun _ _ _ h => h) (Or.inl ⟨rfl, ?_⟩) hHeld''' ?_
            rotate_left
            · intro w hSw
              go_simp
              try exact rfl
            try simp only [Act.put, List.setIfInBounds_toArray, List.set_cons_zero, List.set_cons_succ]
            refine wpAnyH_take (i := 12) (oi := _) (v := ?_) rfl (by kernel_rfl) (by kernel_rfl) (by kernel_rfl) (fun _ _ _ h => h) (Or.inl ⟨rfl, ?_⟩) hHeld''' ?_
            rotate_left
            · intro w hSw
              go_simp
              try exact rfl
            try simp only [Act.put, List.setIfInBounds_toArray, List.set_cons_zero, List.set_cons_succ]
            refine wpAnyH_take (i := 13) (oi := _) (v := ?_) rfl (by kernel_rfl) (by kernel_rfl) (by kernel_rfl) (fun _ _ _ h => h) (Or.inl ⟨rfl, ?_⟩) hHeld''' ?_
            rotate_left
            · intro w hSw
              go_simp
              try exact rfl
            try simp only [Act.put, List.setIfInBounds_toArray, List.set_cons_zero, List.set_cons_succ]
            refine wpAnyH_take (i := 14) (oi := _) (v := ?_) rfl (by kernel_rfl) (by kernel_rfl) (by kernel_rfl) (fun _ _ _ h => h) (Or.inl ⟨rfl, ?_⟩) hHeld''' ?_
            rotate_left
            · intro w hSw
              go_simp
              try exact rfl
            try simp only [Act.put, List.setIfInBounds_toArray, List.set_cons_zero, List.set_cons_succ]
            refine wpAnyH_ready (rs := [15]) (by kernel_rfl) (by simp) ?_
            refine AllReadyH.cons (o := _) rfl (fun K hK => ?_) AllReadyH.nil
            go_simp
            with_reducible refine (fbefore_any ix nx x0 x1 x2 x3 x4 x5 x6 x7 qx iy ny y0 y1 y2 y3 y4 y5 y6 y7 qy _).mono ?_
            rintro e w7 ⟨rfl, hb⟩
            rw [Q1.out]
            refine hK.out _ _ (below_step hHeld''' hb) (fun hHeld'''' => ?_)
            clear hb hK K
            try simp only [Act.put, List.setIfInBounds_toArray, List.set_cons_zero, List.set_cons_succ]
            refine wpAnyH_take (i := 16) (oi := _) (v := ?_) rfl (by kernel_rfl) (by kernel_rfl) (by kernel_rfl) (fun _ _ _ h => h) (Or.inl ⟨rfl, ?_⟩) hHeld'''' ?_
            rotate_left
            · intro w hSw
              go_simp
              try exact rfl
            try simp only [Act.put, List.setIfInBounds_toArray, List.set_cons_zero, List.set_cons_succ]
            refine wpAnyH_take (i := 17) (oi := _) (v := ?_) rfl (by kernel_rfl) (by kernel_rfl) (by kernel_rfl) (fun _ _ _ h => h) (Or.inl ⟨rfl, ?_⟩) hHeld'''' ?_
            rotate_left
            · intro w hSw
              go_simp
              try exact rfl
            try simp only [Act.put, List.setIfInBounds_toArray, List.set_cons_zero, List.set_cons_succ]
            refine wpAnyH_take (i := 18) (oi := _) (v := ?_) rfl (by kernel_rfl) (by kernel_rfl) (by kernel_rfl) (fun _ _ _ h => h) (Or.inl ⟨rfl, ?_⟩) hHeld'''' ?_
            rotate_left
            · intro w hSw
              go_simp
              try exact rfl
            try simp only [Act.put, List.setIfInBounds_toArray, List.set_cons_zero, List.set_cons_succ]
            refine wpAnyH_ready (rs := [19]) (by kernel_rfl) (by simp) ?_
            refine AllReadyH.cons (o := _) rfl (fun K hK => ?_) AllReadyH.nil
            go_simp
            with_reducible refine (fbefore_any iy ny y0 y1 y2 y3 y4 y5 y6 y7 qy ix nx x0 x1 x2 x3 x4 x5 x6 x7 qx _).mono ?_
            rintro e w7 ⟨rfl, hb⟩
            rw [Q2.out]
            refine hK.out _ _ (below_step hHeld'''' hb) (fun hHeld''''' => ?_)
            clear hb hK K
            try simp only [Act.put, List.setIfInBounds_toArray, List.set_cons_zero, List.set_cons_succ]
            refine wpAnyH_take (i := 20) (oi := _) (v := ?_) rfl (by kernel_rfl) (by kernel_rfl) (by kernel_rfl) (fun _ _ _ h => h) (Or.inl ⟨rfl, ?_⟩) hHeld''''' ?_
            rotate_left
            · intro w hSw
              go_simp
              try exact rfl
            try simp only [Act.put, List.setIfInBounds_toArray, List.set_cons_zero, List.set_cons_succ]
            refine wpAnyH_take (i := 21) (oi := _) (v := ?_) rfl (by kernel_rfl) (by kernel_rfl) (by kernel_rfl) (fun _ _ _ h => h) (Or.inl ⟨rfl, ?_⟩) hHeld''''' ?_
            rotate_left
            · intro w hSw
              go_simp
              try exact rfl
            try simp only [Act.put, List.setIfInBounds_toArray, List.set_cons_zero, List.set_cons_succ]
            refine wpAnyH_take (i := 22) (oi := _) (v := ?_) rfl (by kernel_rfl) (by kernel_rfl) (by kernel_rfl) (fun _ _ _ h => h) (Or.inl ⟨rfl, ?_⟩) hHeld''''' ?_
            rotate_left
            · intro w hSw
              go_simp
              try exact rfl
            try simp only [Act.put, List.setIfInBounds_toArray, List.set_cons_zero, List.set_cons_succ]
            refine wpAnyH_take (i := 23) (oi := _) (v := ?_) rfl (by kernel_rfl) (by kernel_rfl) (by kernel_rfl) (fun _ _ _ h => h) (Or.inl ⟨rfl, ?_⟩) hHeld''''' ?_
            rotate_left
            · intro w hSw
              go_simp
              try exact rfl
            try simp only [Act.put, List.setIfInBounds_toArray, List.set_cons_zero, List.set_cons_succ]
            refine wpAnyH_take (i := 24) (oi := _) (v := ?_) rfl (by kernel_rfl) (by kernel_rfl) (by kernel_rfl) (fun _ _ _ h => h) (Or.inl ⟨rfl, ?_⟩) hHeld''''' ?_
            rotate_left
            · intro w hSw
              go_simp
              try exact rfl
            try simp only [Act.put, List.setIfInBounds_toArray, List.set_cons_zero, List.set_cons_succ]
            refine wpAnyH_ready (rs := [25]) (by kernel_rfl) (by simp) ?_
            refine AllReadyH.cons (o := _) rfl (fun K hK => ?_) AllReadyH.nil
            go_simp
            with_reducible refine (fbefore_any ix nx x0 x1 x2 x3 x4 x5 x6 x7 qx iy ny y0 y1 y2 y3 y4 y5 y6 y7 qy _).mono ?_
            rintro e w7 ⟨rfl, hb⟩
            rw [Q1.out]
            refine hK.out _ _ (below_step hHeld''''' hb) (fun hHeld'''''' => ?_)
            clear hb hK K
            try simp only [Act.put, List.setIfInBounds_toArray, List.set_cons_zero, List.set_cons_succ]
            refine wpAnyH_take (i := 26) (oi := _) (v := ?_) rfl (by kernel_rfl) (by kernel_rfl) (by kernel_rfl) (fun _ _ _ h => h) (Or.inl ⟨rfl, ?_⟩) hHeld'''''' ?_
            rotate_left
            · intro w hSw
              go_simp
              try exact rfl
            try simp only [Act.put, List.setIfInBounds_toArray, List.set_cons_zero, List.set_cons_succ]
            refine wpAnyH_take (i := 27) (oi := _) (v := ?_) rfl (by kernel_rfl) (by kernel_rfl) (by kernel_rfl) (fun _ _ _ h => h) (Or.inl ⟨rfl, ?_⟩) hHeld'''''' ?_
            rotate_left
            · intro w hSw
              go_simp
              try exact rfl
            try simp only [Act.put, List.setIfInBounds_toArray, List.set_cons_zero, List.set_cons_succ]
            refine wpAnyH_take (i := 28) (oi := _) (v := ?_) rfl (by kernel_rfl) (by kernel_rfl) (by kernel_rfl) (fun _ _ _ h => h) (Or.inl ⟨rfl, ?_⟩) hHeld'''''' ?_
            rotate_left
            · intro w hSw
              go_simp
              try exact rfl
            try simp only [Act.put, List.setIfInBounds_toArray, List.set_cons_zero, List.set_cons_succ]
            refine wpAnyH_ready (rs := [29]) (by kernel_rfl) (by simp) ?_
            refine AllReadyH.cons (o := _) rfl (fun K hK => ?_) AllReadyH.nil
            go_simp
            with_reducible refine (fbefore_any iy ny y0 y1 y2 y3 y4 y5 y6 y7 qy iz nz z0 z1 z2 z3 z4 z5 z6 z7 qz _).mono ?_
            rintro e w7 ⟨rfl, hb⟩
            rw [Q3.out]
            refine hK.out _ _ (below_step hHeld'''''' hb) (fun hHeld''''''' => ?_)
            clear hb hK K
            try simp only [Act.put, List.setIfInBounds_toArray, List.set_cons_zero, List.set_cons_succ]
            refine wpAnyH_take (i := 30) (oi := _) (v := ?_) rfl (by kernel_rfl) (by kernel_rfl) (by kernel_rfl) (fun _ _ _ h => h) (Or.inl ⟨rfl, ?_⟩) hHeld''''''' ?_
            rotate_left
            · intro w hSw
              go_simp
              try exact rfl
            try simp only [Act.put, List.setIfInBounds_toArray, List.set_cons_zero, List.set_cons_succ]
            refine wpAnyH_take (i := 31) (oi := _) (v := ?_) rfl (by kernel_rfl) (by kernel_rfl) (by kernel_rfl) (fun _ _ _ h => h) (Or.inl ⟨rfl, ?_⟩) hHeld''''''' ?_
            rotate_left
            · intro w hSw
              go_simp
              try exact rfl
            try simp only [Act.put, List.setIfInBounds_toArray, List.set_cons_zero, List.set_cons_succ]
            refine wpAnyH_take (i := 32) (oi := _) (v := undef) rfl (by kernel_rfl) (by kernel_rfl) (by kernel_rfl) (fun _ _ _ h => h) (Or.inr ⟨rfl, rfl⟩) hHeld''''''' ?_
            try simp only [Act.put, List.setIfInBounds_toArray, List.set_cons_zero, List.set_cons_succ]
            refine wpAnyH_take (i := 33) (oi := _) (v := undef) rfl (by kernel_rfl) (by kernel_rfl) (by kernel_rfl) (fun _ _ _ h => h) (Or.inr ⟨rfl, rfl⟩) hHeld''''''' ?_
            try simp only [Act.put, List.setIfInBounds_toArray, List.set_cons_zero, List.set_cons_succ]
            refine wpAnyH_ready (rs := [34]) (by kernel_rfl) (by simp) ?_
            refine AllReadyH.cons (o := _) rfl (fun K hK => ?_) AllReadyH.nil
            go_simp
            refine hK.out _ _ hHeld''''''' (fun hHeld'''''''' => ?_)
            clear hK K
            try simp only [Act.put, List.setIfInBounds_toArray, List.set_cons_zero, List.set_cons_succ]
            refine wpAnyH_take (i := 35) (oi := _) (v := undef) rfl (by kernel_rfl) (by kernel_rfl) (by kernel_rfl) (fun _ _ _ h => h) (Or.inr ⟨rfl, rfl⟩) hHeld'''''''' ?_
            try simp only [Act.put, List.setIfInBounds_toArray, List.set_cons_zero, List.set_cons_succ]
            refine wpAnyH_take (i := 36) (oi := _) (v := ?_) rfl (by kernel_rfl) (by kernel_rfl) (by kernel_rfl) (fun _ _ _ h => h) (Or.inl ⟨rfl, ?_⟩) hHeld'''''''' ?_
            rotate_left
            · intro w hSw
              go_simp
              try exact rfl
            try simp only [Act.put, List.setIfInBounds_toArray, List.set_cons_zero, List.set_cons_succ]
            refine wpAnyH_take (i := 37) (oi := _) (v := ?_) rfl (by kernel_rfl) (by kernel_rfl) (by kernel_rfl) (fun _ _ _ h => h) (Or.inl ⟨rfl, ?_⟩) hHeld'''''''' ?_
            rotate_left
            · intro w hSw
              go_simp
              try exact rfl
            try simp only [Act.put, List.setIfInBounds_toArray, List.set_cons_zero, List.set_cons_succ]
            refine wpAnyH_done (by kernel_rfl) ?_ _
            go_wp2_with (go_at_call 9; refine (works_any _).mono ?_; rintro e w8 ⟨rfl, hb8⟩)
            go_ret
            exact ⟨rfl, HW.out.trans ((hHeld''''''''.trans (hb8.mono hHeld''''''''.size)).mono HW.out.size)⟩
          · have Q4 := Aside0.mk (bef_trans hq1 hq3)
            have Q1 := Aside0.mk hq1
            have Q3 := Aside0.mk hq3
            clear hq1 hq3
            obtain ⟨g0, g1, g2, g3, g4, g5, g6, g7, g8, g9, g10⟩ := held11 HH.out
            go_wp2
            refine wp_region_held_drew (S := fun X => Below wc.heap.size wc X) (by kernel_rfl) (below_drew hS0) (fun hHeld => ?_)
            refine wpAnyH_take (i := 0) (oi := _) (v := ?_) rfl (by kernel_rfl) (by kernel_rfl) (by kernel_rfl) (fun _ _ _ h => h) (Or.inl ⟨rfl, ?_⟩) hHeld ?_
            rotate_left
            · intro w hSw
              go_simp
              try exact rfl
            try simp only [Act.put, List.setIfInBounds_toArray, List.set_cons_zero, List.set_cons_succ]
            refine wpAnyH_take (i := 1) (oi := _) (v := ?_) rfl (by kernel_rfl) (by kernel_rfl) (by kernel_rfl) (fun _ _ _ h => h) (Or.inl ⟨rfl, ?_⟩) hHeld ?_
            rotate_left
            · intro w hSw
              go_simp
              try exact rfl
            try simp only [Act.put, List.setIfInBounds_toArray, List.set_cons_zero, List.set_cons_succ]
            refine wpAnyH_take (i := 3) (oi := _) (v := ?_) rfl (by kernel_rfl) (by kernel_rfl) (by kernel_rfl) (fun _ _ _ h => h) (Or.inl ⟨rfl, ?_⟩) hHeld ?_
            rotate_left
            · intro w hSw
              go_simp
              try exact rfl
            try simp only [Act.put, List.setIfInBounds_toArray, List.set_cons_zero, List.set_cons_succ]
            refine wpAnyH_take (i := 4) (oi := _) (v := ?_) rfl (by kernel_rfl) (by kernel_rfl) (by kernel_rfl) (fun _ _ _ h => h) (Or.inl ⟨rfl, ?_⟩) hHeld ?_
            rotate_left
            · intro w hSw
              go_simp
              try exact rfl
            try simp only [Act.put, List.setIfInBounds_toArray, List.set_cons_zero, List.set_cons_succ]
            refine wpAnyH_ready (rs := [2]) (by kernel_rfl) (by simp) ?_
            refine AllReadyH.cons (o := _) rfl (fun K hK => ?_) AllReadyH.nil
            go_simp
            with_reducible refine (fbefore_any ix nx x0 x1 x2 x3 x4 x5 x6 x7 qx iy ny y0 y1 y2 y3 y4 y5 y6 y7 qy _).mono ?_
            rintro e w7 ⟨rfl, hb⟩
            rw [Q1.out]
            refine hK.out _ _ (below_step hHeld hb) (fun hHeld' => ?_)
            clear hb hK K
            try simp only [Act.put, List.setIfInBounds_toArray, List.set_cons_zero, List.set_cons_succ]
            refine wpAnyH_ready (rs := [5]) (by kernel_rfl) (by simp) ?_
            refine AllReadyH.cons (o := _) rfl (fun K hK => ?_) AllReadyH.nil
            go_simp
            with_reducible refine (rbefore_any ix nx x0 x1 x2 x3 x4 x5 x6 x7 qx iy ny y0 y1 y2 y3 y4 y5 y6 y7 qy _).mono ?_
            rintro e w7 ⟨rfl, hb⟩
            rw [Q1.out]
            refine hK.out _ _ (below_step hHeld' hb) (fun hHeld'' => ?_)
            clear hb hK K
            try simp only [Act.put, List.setIfInBounds_toArray, List.set_cons_zero, List.set_cons_succ]
            refine wpAnyH_take (i := 6) (oi := _) (v := ?_) rfl (by kernel_rfl) (by kernel_rfl) (by kernel_rfl) (fun _ _ _ h => h) (Or.inl ⟨rfl, ?_⟩) hHeld'' ?_
            rotate_left
            · intro w hSw
              go_simp
              try exact rfl
            try simp only [Act.put, List.setIfInBounds_toArray, List.set_cons_zero, List.set_cons_succ]
            refine wpAnyH_take (i := 7) (oi := _) (v := ?_) rfl (by kernel_rfl) (by kernel_rfl) (by kernel_rfl) (fun _ _ _ h => h) (Or.inl ⟨rfl, ?_⟩) hHeld'' ?_
            rotate_left
            · intro w hSw
              go_simp
              try exact rfl
            try simp only [Act.put, List.setIfInBounds_toArray, List.set_cons_zero, List.set_cons_succ]
            refine wpAnyH_take (i := 8) (oi := _) (v := ?_) rfl (by kernel_rfl) (by kernel_rfl) (by kernel_rfl) (fun _ _ _ h => h) (Or.inl ⟨rfl, ?_⟩) hHeld'' ?_
            rotate_left
            · intro w hSw
              go_simp
              try exact rfl
            try simp only [Act.put, List.setIfInBounds_toArray, List.set_cons_zero, List.set_cons_succ]
            refine wpAnyH_take (i := 9) (oi := _) (v := ?_) rfl (by kernel_rfl) (by kernel_rfl) (by kernel_rfl) (fun _ _ _ h => h) (Or.inl ⟨rfl, ?_⟩) hHeld'' ?_
            rotate_left
            · intro w hSw
              go_simp
              try exact rfl
            try simp only [Act.put, List.setIfInBounds_toArray, List.set_cons_zero, List.set_cons_succ]
            refine wpAnyH_ready (rs := [10]) (by kernel_rfl) (by simp) ?_
            refine AllReadyH.cons (o := _) rfl (fun K hK => ?_) AllReadyH.nil
            go_simp
            with_reducible refine (fbefore_any ix nx x0 x1 x2 x3 x4 x5 x6 x7 qx ix nx x0 x1 x2 x3 x4 x5 x6 x7 qx _).mono ?_
            rintro e w7 ⟨rfl, hb⟩
            rw [Q0.out]
            refine hK.out _ _ (below_step hHeld'' hb) (fun hHeld''' => ?_)
            clear hb hK K
            try simp only [Act.put, List.setIfInBounds_toArray, List.set_cons_zero, List.set_cons_succ]
            refine wpAnyH_take (i := 11) (oi := _) (v := ?_) rfl (by kernel_rfl) (by kernel_rfl) (by kernel_rfl) (fun _ _ _ h => h) (Or.inl ⟨rfl, ?_⟩) hHeld''' ?_
            rotate_left
            · intro w hSw
              go_simp
              try exact rfl
            try simp only [Act.put, List.setIfInBounds_toArray, List.set_cons_zero, List.set_cons_succ]
            refine wpAnyH_take (i := 12) (oi := _) (v := ?_) rfl (by kernel_rfl) (by kernel_rfl) (by kernel_rfl) (fun _ _ _ h => h) (Or.inl ⟨rfl, ?_⟩) hHeld''' ?_
            rotate_left
            · intro w hSw
              go_simp
              try exact rfl
            try simp only [Act.put, List.setIfInBounds_toArray, List.set_cons_zero, List.set_cons_succ]
            refine wpAnyH_take (i := 13) (oi := _) (v := ?_) rfl (by kernel_rfl) (by kernel_rfl) (by kernel_rfl) (fun _ _ _ h => h) (Or.inl ⟨rfl, ?_⟩) hHeld''' ?_
            rotate_left
            · intro w hSw
              go_simp
              try exact rfl
            try simp only [Act.put, List.setIfInBounds_toArray, List.set_cons_zero, List.set_cons_succ]
            refine wpAnyH_take (i := 14) (oi := _) (v := ?_) rfl (by kernel_rfl) (by kernel_rfl) (by kernel_rfl) (fun _ _ _ h => h) (Or.inl ⟨rfl, ?_⟩) hHeld''' ?_
            rotate_left
            · intro w hSw
              go_simp
              try exact rfl
            try simp only [Act.put, List.setIfInBounds_toArray, List.set_cons_zero, List.set_cons_succ]
            refine wpAnyH_ready (rs := [15]) (by kernel_rfl) (by simp) ?_
            refine AllReadyH.cons (o := _) rfl (fun K hK => ?_) AllReadyH.nil
            go_simp
            with_reducible refine (fbefore_any ix nx x0 x1 x2 x3 x4 x5 x6 x7 qx iy ny y0 y1 y2 y3 y4 y5 y6 y7 qy _).mono ?_
            rintro e w7 ⟨rfl, hb⟩
            rw [Q1.out]
            refine hK.out _ _ (below_step hHeld''' hb) (fun hHeld'''' => ?_)
            clear hb hK K
            try simp only [Act.put, List.setIfInBounds_toArray, List.set_cons_zero, List.set_cons_succ]
            refine wpAnyH_take (i := 16) (oi := _) (v := ?_) rfl (by kernel_rfl) (by kernel_rfl) (by kernel_rfl) (fun _ _ _ h => h) (Or.inl ⟨rfl, ?_⟩) hHeld'''' ?_
            rotate_left
            · intro w hSw
              go_simp
              try exact rfl
            try simp only [Act.put, List.setIfInBounds_toArray, List.set_cons_zero, List.set_cons_succ]
            refine wpAnyH_take (i := 17) (oi := _) (v := ?_) rfl (by kernel_rfl) (by kernel_rfl) (by kernel_rfl) (fun _ _ _ h => h) (Or.inl ⟨rfl, ?_⟩) hHeld'''' ?_
            rotate_left
            · intro w hSw
              go_simp
              try exact rfl
            try simp only [Act.put, List.setIfInBounds_toArray, List.set_cons_zero, List.set_cons_succ]
            refine wpAnyH_take (i := 18) (oi := _) (v := ?_) rfl (by kernel_rfl) (by kernel_rfl) (by kernel_rfl) (fun _ _ _ h => h) (Or.inl ⟨rfl, ?_⟩) hHeld'''' ?_
            rotate_left
            · intro w hSw
              go_simp
              try exact rfl
            try simp only [Act.put, List.setIfInBounds_toArray, List.set_cons_zero, List.set_cons_succ]
            refine wpAnyH_ready (rs := [19]) (by kernel_rfl) (by simp) ?_
            refine AllReadyH.cons (o := _) rfl (fun K hK => ?_) AllReadyH.nil
            go_simp
            with_reducible refine (fbefore_any iy ny y0 y1 y2 y3 y4 y5 y6 y7 qy ix nx x0 x1 x2 x3 x4 x5 x6 x7 qx _).mono ?_
            rintro e w7 ⟨rfl, hb⟩
            rw [Q2.out]
            refine hK.out _ _ (below_step hHeld'''' hb) (fun hHeld''''' => ?_)
            clear hb hK K
            try simp only [Act.put, List.setIfInBounds_toArray, List.set_cons_zero, List.set_cons_succ]
            refine wpAnyH_take (i := 20) (oi := _) (v := ?_) rfl (by kernel_rfl) (by kernel_rfl) (by kernel_rfl) (fun _ _ _ h => h) (Or.inl ⟨rfl, ?_⟩) hHeld''''' ?_
            rotate_left
            · intro w hSw
              go_simp
              try exact rfl
            try simp only [Act.put, List.setIfInBounds_toArray, List.set_cons_zero, List.set_cons_succ]
            refine wpAnyH_take (i := 21) (oi := _) (v := ?_) rfl (by kernel_rfl) (by kernel_rfl) (by kernel_rfl) (fun _ _ _ h => h) (Or.inl ⟨rfl, ?_⟩) hHeld''''' ?_
            rotate_left
            · intro w hSw
              go_simp
              try exact rfl
            try simp only [Act.put, List.setIfInBounds_toArray, List.set_cons_zero, List.set_cons_succ]
            refine wpAnyH_take (i := 22) (oi := _) (v := ?_) rfl (by kernel_rfl) (by kernel_rfl) (by kernel_rfl) (fun _ _ _ h => h) (Or.inl ⟨rfl, ?_⟩) hHeld''''' ?_
            rotate_left
            · intro w hSw
              go_simp
              try exact rfl
            try simp only [Act.put, List.setIfInBounds_toArray, List.set_cons_zero, List.set_cons_succ]
            refine wpAnyH_take (i := 23) (oi := _) (v := ?_) rfl (by kernel_rfl) (by kernel_rfl) (by kernel_rfl) (fun _ _ _ h => h) (Or.inl ⟨rfl, ?_⟩) hHeld''''' ?_
            rotate_left
            · intro w hSw
              go_simp
              try exact rfl
            try simp only [Act.put, List.setIfInBounds_toArray, List.set_cons_zero, List.set_cons_succ]
            refine wpAnyH_take (i := 24) (oi := _) (v := ?_) rfl (by kernel_rfl) (by kernel_rfl) (by kernel_rfl) (fun _ _ _ h => h) (Or.inl ⟨rfl, ?_⟩) hHeld''''' ?_
            rotate_left
            · intro w hSw
              go_simp
              try exact rfl
            try simp only [Act.put, List.setIfInBounds_toArray, List.set_cons_zero, List.set_cons_succ]
            refine wpAnyH_ready (rs := [25]) (by kernel_rfl) (by simp) ?_
            refine AllReadyH.cons (o := _) rfl (fun K hK => ?_) AllReadyH.nil
            go_simp
            with_reducible refine (fbefore_any ix nx x0 x1 x2 x3 x4 x5 x6 x7 qx iy ny y0 y1 y2 y3 y4 y5 y6 y7 qy _).mono ?_
            rintro e w7 ⟨rfl, hb⟩
            rw [Q1.out]
            refine hK.out _ _ (below_step hHeld''''' hb) (fun hHeld'''''' => ?_)
            clear hb hK K
            try simp only [Act.put, List.setIfInBounds_toArray, List.set_cons_zero, List.set_cons_succ]
            refine wpAnyH_take (i := 26) (oi := _) (v := ?_) rfl (by kernel_rfl) (by kernel_rfl) (by kernel_rfl) (fun _ _ _ h => h) (Or.inl ⟨rfl, ?_⟩) hHeld'''''' ?_
            rotate_left
            · intro w hSw
              go_simp
              try exact rfl
            try simp only [Act.put, List.setIfInBounds_toArray, List.set_cons_zero, List.set_cons_succ]
            refine wpAnyH_take (i := 27) (oi := _) (v := ?_) rfl (by kernel_rfl) (by kernel_rfl) (by kernel_rfl) (fun _ _ _ h => h) (Or.inl ⟨rfl, ?_⟩) hHeld'''''' ?_
            rotate_left
            · intro w hSw
              go_simp
              try exact rfl
            try simp only [Act.put, List.setIfInBounds_toArray, List.set_cons_zero, List.set_cons_succ]
            refine wpAnyH_take (i := 28) (oi := _) (v := ?_) rfl (by kernel_rfl) (by kernel_rfl) (by kernel_rfl) (fun _ _ _ h => h) (Or.inl ⟨rfl, ?_⟩) hHeld'''''' ?_
            rotate_left
            · intro w hSw
              go_simp
              try exact rfl
            try simp only [Act.put, List.setIfInBounds_toArray, List.set_cons_zero, List.set_cons_succ]
            refine wpAnyH_ready (rs := [29]) (by kernel_rfl) (by simp) ?_
            refine AllReadyH.cons (o := _) rfl (fun K hK => ?_) AllReadyH.nil
            go_simp
            with_reducible refine (fbefore_any iy ny y0 y1 y2 y3 y4 y5 y6 y7 qy iz nz z0 z1 z2 z3 z4 z5 z6 z7 qz _).mono ?_
            rintro e w7 ⟨rfl, hb⟩
            rw [Q3.out]
            refine hK.out _ _ (below_step hHeld'''''' hb) (fun hHeld''''''' => ?_)
            clear hb hK K
            try simp only [Act.put, List.setIfInBounds_toArray, List.set_cons_zero, List.set_cons_succ]
            refine wpAnyH_take (i := 30) (oi := _) (v := ?_) rfl (by kernel_rfl) (by kernel_rfl) (by kernel_rfl) (fun _ _ _ h => h) (Or.inl ⟨rfl, ?_⟩) hHeld''''''' ?_
            rotate_left
            · intro w hSw
              go_simp
              try exact rfl
            try simp only [Act.put, List.setIfInBounds_toArray, List.set_cons_zero, List.set_cons_succ]
            refine wpAnyH_take (i := 31) (oi := _) (v := ?_) rfl (by kernel_rfl) (by kernel_rfl) (by kernel_rfl) (fun _ _ _ h => h) (Or.inl ⟨rfl, ?_⟩) hHeld''''''' ?_
            rotate_left
            · intro w hSw
              go_simp
              try exact rfl
            try simp only [Act.put, List.setIfInBounds_toArray, List.set_cons_zero, List.set_cons_succ]
            refine wpAnyH_take (i := 32) (oi := _) (v := ?_) rfl (by kernel_rfl) (by kernel_rfl) (by kernel_rfl) (fun _ _ _ h => h) (Or.inl ⟨rfl, ?_⟩) hHeld''''''' ?_
            rotate_left
            · intro w hSw
              go_simp
              try exact rfl
            try simp only [Act.put, List.setIfInBounds_toArray, List.set_cons_zero, List.set_cons_succ]
            refine wpAnyH_take (i := 33) (oi := _) (v := ?_) rfl (by kernel_rfl) (by kernel_rfl) (by kernel_rfl) (fun _ _ _ h => h) (Or.inl ⟨rfl, ?_⟩) hHeld''''''' ?_
            rotate_left
            · intro w hSw
              go_simp
              try exact rfl
            try simp only [Act.put, List.setIfInBounds_toArray, List.set_cons_zero, List.set_cons_succ]
            refine wpAnyH_ready (rs := [34]) (by kernel_rfl) (by simp) ?_
            refine AllReadyH.cons (o := _) rfl (fun K hK => ?_) AllReadyH.nil
            go_simp
            with_reducible refine (fbefore_any ix nx x0 x1 x2 x3 x4 x5 x6 x7 qx iz nz z0 z1 z2 z3 z4 z5 z6 z7 qz _).mono ?_
            rintro e w7 ⟨rfl, hb⟩
            rw [Q4.out]
            refine hK.out _ _ (below_step hHeld''''''' hb) (fun hHeld'''''''' => ?_)
            clear hb hK K
            try simp only [Act.put, List.setIfInBounds_toArray, List.set_cons_zero, List.set_cons_succ]
            refine wpAnyH_take (i := 35) (oi := _) (v := ?_) rfl (by kernel_rfl) (by kernel_rfl) (by kernel_rfl) (fun _ _ _ h => h) (Or.inl ⟨rfl, ?_⟩) hHeld'''''''' ?_
            rotate_left
            · intro w hSw
              go_simp
              try exact rfl
            try simp only [Act.put, List.setIfInBounds_toArray, List.set_cons_zero, List.set_cons_succ]
            refine wpAnyH_take (i := 36) (oi := _) (v := ?_) rfl (by kernel_rfl) (by kernel_rfl) (by kernel_rfl) (fun _ _ _ h => h) (Or.inl ⟨rfl, ?_⟩) hHeld'''''''' ?_
            rotate_left
            · intro w hSw
              go_simp
              try exact rfl
            try simp only [Act.put, List.setIfInBounds_toArray, List.set_cons_zero, List.set_cons_succ]
            refine wpAnyH_take (i := 37) (oi := _) (v := ?_) rfl (by kernel_rfl) (by kernel_rfl) (by kernel_rfl) (fun _ _ _ h => h) (Or.inl ⟨rfl, ?_⟩) hHeld'''''''' ?_
            rotate_left
            · intro w hSw
              go_simp
              try exact rfl
            try simp only [Act.put, List.setIfInBounds_toArray, List.set_cons_zero, List.set_cons_succ]
            refine wpAnyH_done (by kernel_rfl) ?_ _
            go_wp2_with (go_at_call 9; refine (works_any _).mono ?_; rintro e w8 ⟨rfl, hb8⟩)
            go_ret
            exact ⟨rfl, HW.out.trans ((hHeld''''''''.trans (hb8.mono hHeld''''''''.size)).mono HW.out.size)⟩
end Go.Proofs.YtmgabmcfgnlpfaaDoor.Frm
