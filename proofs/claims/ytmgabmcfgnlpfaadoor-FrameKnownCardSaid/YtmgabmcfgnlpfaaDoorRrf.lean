/- ref03.Read: texts that could be frames with bytes, of other lengths. -/
import Derived.Test.YtmgabmcfgnlpfaaDoorRre
namespace Go.Proofs.YtmgabmcfgnlpfaaDoor.Frm
open Go.RowKit Go.Proofs.YtmgabmcfgnlpfaaDoorW.PrintWords Go.Proofs.YtmgabmcfgnlpfaaDoorW.PrintMore Go.Proofs.YtmgabmcfgnlpfaaDoorW.PrintLast

set_option maxHeartbeats 2000000 in
set_option maxRecDepth 100000 in
theorem rread_other (s : ByteArray) (w : World) (h4 : 4 ≤ s.size) (h20 : s.size ≤ 20) (h6 : ¬ s.size = 6) :
    Calls Tryd.prog 8 #[.string s] w fun e w' => (∃ f k, e = .returned (.tuple #[.agg (Fm.cells f), .int .i64 k]) ∧ Reads s.data.toList f k) ∧ Below w.heap.size w w' := by
  obtain ⟨L, hL⟩ : ∃ L, s.data.toList = L := ⟨_, rfl⟩
  rw [hL]
  have HGL := Aside0.mk (show ∀ k (h : k < s.size), s[k] = L[k]?.getD 0 by intro k h; rw [← hL]; exact get_list s k h)
  have HL := Aside0.mk hL
  clear hL
  have H4 := Aside0.mk h4
  have H6 := Aside0.mk h6
  have H20 := Aside0.mk h20
  obtain ⟨N, hN⟩ : ∃ N, (s.size - 4) / 2 = N := ⟨_, rfl⟩
  have HN := Aside0.mk (show 4 + 2 * N ≤ s.size by omega)
  have HN8 := Aside0.mk (show N ≤ 8 by omega)
  have HNI := Aside0.mk (show ((s.size : Int) - 4) / 2 = N by omega)
  have HGG := Aside0.mk (show guessF L = ⟨idK L 3, (N : Nat), gdK L N, false⟩ by
    have hlen : L.length = s.size := by rw [← HL.out, ← Lib.size_eq]
    rw [guessF, if_neg (fun h => h6 (by rw [← hlen]; exact h.1)), hlen, idK_three, hN, HNI.out]
    rfl)
  clear hN h6
  go_enter Tryd.func8, Tryd.ntmps8
  go_wp2
  rename_i _ hA hB _ _
  clear hA hB h4 h20
  go_loopw [4, 5] (fun id j wr => ∃ k : Nat, k ≤ 3 ∧ j = .int .i64 k ∧ (∃ z : Int, id = .int .i64 z ∧ Aside0 (z = idK L k)) ∧ Aside0 (wr.heap[w.heap.size]? = some (.cells (Fm.cells fm0) 25 (0, 0))) ∧ Aside0 (Below w.heap.size w wr) ∧ wr.heap.size = w.heap.size + 1) (fun _ j _ => 3 - (intOf j).toNat)
  case atStart =>
    exact ⟨0, Nat.zero_le _, rfl, ⟨0, rfl, ⟨rfl⟩⟩, ⟨World.alloc_heap_new w _⟩, ⟨below_alloc (Below.refl _ _) _⟩, by simp⟩
  case round =>
    obtain ⟨k, hk, rfl, ⟨z, rfl, HZ⟩, HB, HW, hsz⟩ := hrel
    have hzb := idK_bound L k hk
    rw [← HZ.out] at hzb
    by_cases hlt : k < 3
    · have hks : k < s.size := by have := H4.out; omega
      have hksi : (k : Int) < (s.size : Int) := by omega
      have hg := HGL.out k hks
      have HST := Aside0.mk (show idK L (k + 1) = z * 16 + max 0 (hexV (L[k]?.getD 0)) by rw [idK, ← HZ.out, vz_max])
      generalize L[k]?.getD 0 = c at hg HST
      have hv := vz_bound c
      rw [vz_max] at hv
      go_wp2_with (go_at_call 26; refine (value_any c _).mono ?_; rintro e w' ⟨rfl, rfl⟩)
      exact ⟨⟨k + 1, by omega, by simp, ⟨_, rfl, ⟨HST.out.symm⟩⟩, HB, HW, hsz⟩, by simp [intOf]; omega⟩
    · have e3 : k = 3 := by omega
      have e3i : (k : Int) = 3 := by omega
      have HZ3 := Aside0.mk (show z = idK L 3 by rw [← e3]; exact HZ.out)
      have HSZ := Aside0.mk hsz
      rw [e3i]
      clear e3 hk hlt e3i HZ
      have h6 := H6.out
      have hni := HNI.out
      have h4 := H4.out
      have h20 := H20.out
      go_wp2
      rename_i hA
      clear h6 hni hA h4 h20
      go_loopw [7] (fun j wr2 => ∃ k : Nat, k ≤ N ∧ j = .int .i64 k ∧ Aside0 (wr2.heap[w.heap.size]? = some (.cells (Fm.cells fm0) 25 (0, 0))) ∧ Aside0 (wr2.heap[w.heap.size + 1]? = some (.cells (Fm.cells ⟨z, (N : Nat), gdK L k, false⟩) 25 (0, 0))) ∧ Aside0 (Below w.heap.size w wr2)) (fun j _ => N - (intOf j).toNat)
      case atStart =>
        obtain ⟨hb0, hb1, hb2⟩ := after_two HSZ.out HB.out HW.out (Below.refl _ _)
        refine ⟨0, Nat.zero_le _, rfl, ⟨hb0⟩, ⟨?_⟩, ⟨hb2⟩⟩
        exact hb1
      case round =>
        obtain ⟨k, hk, rfl, HB0, HB1, HB2⟩ := hrel
        by_cases hlt : k < N
        · have hcl := blk_cell HB1.out (2 + k)
          rw [fm_len _ _ _ _ k (by rw [gdK_len]; have := HN8.out; omega)] at hcl
          have hfr := blk_frozen HB1.out (2 + k)
          have hb1 := HB1.out
          obtain ⟨x0, x1, x2, x3, x4, x5, x6, x7, hx8⟩ := eight (gdK_len L k)
          rw [hx8] at hb1
          obtain ⟨_, f1, _, _, _, _, _, _, _, _, _, _⟩ := fm_at hb1
          clear hx8 hb1
          have HKS := Aside0.mk (show 5 + 2 * k < s.size by have := HN.out; omega)
          have hgA := HGL.out (4 + 2 * k) (by have := HKS.out; omega)
          have hgB := HGL.out (5 + 2 * k) HKS.out
          have HST := Aside0.mk (gdK_succ L k (by have := HN8.out; omega))
          rw [vz_max, vz_max] at HST
          have hvA := vz_bound (L[4 + 2 * k]?.getD 0)
          have hvB := vz_bound (L[5 + 2 * k]?.getD 0)
          rw [vz_max] at hvA hvB
          generalize L[4 + 2 * k]?.getD 0 = cA at hgA HST hvA
          generalize L[5 + 2 * k]?.getD 0 = cB at hgB HST hvB
          have hk8 : (k : Int) < 8 := by have := HN8.out; omega
          have hw1 : IntKind.i64.wrap (2 * (k : Int)) = 2 * k := wrap_small _ (by omega) (by omega)
          have hw2 : IntKind.i64.wrap (4 + 2 * (k : Int)) = 4 + 2 * k := wrap_small _ (by omega) (by omega)
          have hw3 : IntKind.i64.wrap (5 + 2 * (k : Int)) = 5 + 2 * k := wrap_small _ (by omega) (by omega)
          have hc1 : 4 + 2 * (k : Int) < (s.size : Int) := by have := HKS.out; omega
          have hc2 : 5 + 2 * (k : Int) < (s.size : Int) := by have := HKS.out; omega
          have hz1 : 0 ≤ 4 + 2 * (k : Int) := by omega
          have hz2 : 0 ≤ 5 + 2 * (k : Int) := by omega
          have ht1 : (4 + 2 * (k : Int)).toNat = 4 + 2 * k := by omega
          have ht2 : (5 + 2 * (k : Int)).toNat = 5 + 2 * k := by omega
          obtain ⟨vA, hA⟩ : ∃ vA, max 0 (hexV cA) = vA := ⟨_, rfl⟩
          obtain ⟨vB, hB⟩ : ∃ vB, max 0 (hexV cB) = vB := ⟨_, rfl⟩
          rw [hA] at hvA
          rw [hB] at hvB
          rw [hA, hB] at HST
          have hw4 : IntKind.i64.wrap (vA * 16) = vA * 16 := wrap_small _ (by omega) (by omega)
          have hw5 : IntKind.i64.wrap (vA * 16 + vB) = vA * 16 + vB := wrap_small _ (by omega) (by omega)
          have hw6 : IntKind.u8.wrap (vA * 16 + vB) = vA * 16 + vB := by rw [IntKind.wrap_u8]; omega
          go_wp2
          refine wp_region_still_tail 20 (by kernel_rfl) (by kernel_rfl) ?_
          simp only [List.take_succ_cons, List.take_zero, List.drop_succ_cons, List.drop_zero]
          iterate 6 still_step
          still_call (value_any cA _)
          iterate 7 still_step
          still_call (value_any cB _)
          iterate 5 still_step
          refine wpStill_nil ?_
          change wpList _ _ _ _ _ wr.drew
          go_wp2
          refine ⟨⟨k + 1, by omega, by simp, ⟨blk_far HB0.out (by simp) _⟩, ⟨?_⟩, ⟨(HB2.out.setCell (by simp) _).drew⟩⟩, by simp [intOf]; omega⟩
          rw [HST.out]
          exact blk_put HB1.out (2 + k) _ (fm_set _ _ _ k _ _ (by rw [gdK_len]; have := HN8.out; omega))
        · have ek : N = k := by omega
          subst ek
          have hwf : Wf ⟨z, (N : Nat), gdK L N, false⟩ := ⟨gdK_len L N, gdK_byte L N, hzb.1⟩
          obtain ⟨x0, x1, x2, x3, x4, x5, x6, x7, hx8⟩ := eight (gdK_len L N)
          have HG := Aside0.mk (show guessF L = ⟨z, (N : Nat), [x0, x1, x2, x3, x4, x5, x6, x7], false⟩ by rw [HGG.out, HZ3.out, hx8])
          rw [hx8] at hwf
          have HX8 := Aside0.mk hx8
          have hb1 := HB1.out
          rw [hx8] at hb1
          obtain ⟨a0, a1, a2, a3, a4, a5, a6, a7, a8, a9, a10, a11⟩ := fm_at hb1
          obtain ⟨t, ht⟩ : ∃ t, strOf (wrF ⟨z, (N : Nat), [x0, x1, x2, x3, x4, x5, x6, x7], false⟩) = t := ⟨_, rfl⟩
          have HWR := fun W => rwrite_any z (N : Nat) x0 x1 x2 x3 x4 x5 x6 x7 false W hwf
          rw [ht] at HWR
          have HT := Aside0.mk ht
          have HWF := Aside0.mk hwf
          clear ht hwf hb1 hx8
          by_cases he : t = s
          · have HE := Aside0.mk he
            have hts : (t.toList == s.toList) = true := str_beq he
            clear he
            go_wp2_with (go_at_call 19; refine (HWR _).mono ?_; rintro e w' ⟨(⟨hrt, rfl⟩ | ⟨hrt, rfl⟩), hbw⟩ <;> (clear HWR; have hb0 := blk_below HB0.out hbw; have hb1 := blk_below HB1.out hbw; have hb2 := HB2.out.trans (hbw.mono HB2.out.size); rw [HX8.out] at hb1; obtain ⟨f0, f1, f2, f3, f4, f5, f6, f7, f8, f9, f10, _⟩ := fm_at hb1; obtain ⟨e0, e1, e2, e3, e4, e5, e6, e7, e8, e9, e10, e11⟩ := fm_at hb0; have HC0 := Aside0.mk hb0; have HC2 := Aside0.mk hb2; have HRT := Aside0.mk hrt; clear hb0 hb1 hb2 hbw hrt))
            · refine bodyPost_ret (rread_res _ _ w.heap.size (Fm.cells ⟨z, (N : Nat), [x0, x1, x2, x3, x4, x5, x6, x7], false⟩) (.int .i64 0) rfl rfl ?_ rfl) rfl ?_
              · rw [cells11]
                exact row_fm HC0.out ..
              · rw [cells11]
                exact ⟨⟨_, 0, rfl, guess_good HL.out HT.out HWF.out HRT.out HE.out⟩, below_cells (Nat.le_refl _) _ _ HC2.out⟩
            · refine bodyPost_ret (rread_res _ _ w.heap.size fm0.cells (.int .i64 30) rfl rfl ?_ rfl) rfl ?_
              · rw [cells11]
                exact row_fm HC0.out ..
              · rw [cells11]
                exact ⟨⟨fm0, 30, rfl, guess_none HL.out HG.out HT.out (fun h => HRT.out h.1)⟩, below_cells (Nat.le_refl _) _ _ HC2.out⟩
          · have HE := Aside0.mk he
            have hts : (t.toList == s.toList) = false := str_bne he
            clear he
            go_wp2_with (go_at_call 19; refine (HWR _).mono ?_; rintro e w' ⟨(⟨hrt, rfl⟩ | ⟨hrt, rfl⟩), hbw⟩ <;> (clear HWR; have hb0 := blk_below HB0.out hbw; have hb1 := blk_below HB1.out hbw; have hb2 := HB2.out.trans (hbw.mono HB2.out.size); rw [HX8.out] at hb1; obtain ⟨f0, f1, f2, f3, f4, f5, f6, f7, f8, f9, f10, _⟩ := fm_at hb1; obtain ⟨e0, e1, e2, e3, e4, e5, e6, e7, e8, e9, e10, e11⟩ := fm_at hb0; have HC0 := Aside0.mk hb0; have HC2 := Aside0.mk hb2; have HRT := Aside0.mk hrt; clear hb0 hb1 hb2 hbw hrt))
            all_goals
              refine bodyPost_ret (rread_res _ _ w.heap.size fm0.cells (.int .i64 30) rfl rfl ?_ rfl) rfl ?_
              · rw [cells11]
                exact row_fm HC0.out ..
              · rw [cells11]
                exact ⟨⟨fm0, 30, rfl, guess_none HL.out HG.out HT.out (fun h => HE.out h.2)⟩, below_cells (Nat.le_refl _) _ _ HC2.out⟩
theorem rread_any (s : ByteArray) (w : World) :
    Calls Tryd.prog 8 #[.string s] w fun e w' => (∃ f k, e = .returned (.tuple #[.agg (Fm.cells f), .int .i64 k]) ∧ Reads s.data.toList f k) ∧ Below w.heap.size w w' := by
  by_cases hb : s.size < 4 ∨ 20 < s.size
  · exact rread_long s w hb
  · by_cases h6 : s.size = 6
    · by_cases h82 : s.data.toList[4]?.getD 0 = 82
      · exact rread_ask s w h6 h82
      · exact rread_six s w h6 h82
    · exact rread_other s w (by omega) (by omega) h6
end Go.Proofs.YtmgabmcfgnlpfaaDoor.Frm
