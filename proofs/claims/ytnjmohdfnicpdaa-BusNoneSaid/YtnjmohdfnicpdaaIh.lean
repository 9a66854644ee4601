/- A bus that is not there; the walk over BusNone (filled by fill.py). -/
import Derived.Test.YtnjmohdfnicpdaaId
namespace Go.Proofs.Ytnjmohdfnicpdaa.Bus
open Go.RowKit Go.Shelf Go.Lib Go.Sort Go.Proofs.Ytnjmohdfnicpdaa.Frm Go.Proofs.Ytnjmohdfnicpdaa.Rng Go.Proofs.YtnjmohdfnicpdaaW.PrintWords Go.Proofs.YtnjmohdfnicpdaaW.PrintMore Go.Proofs.YtnjmohdfnicpdaaW.PrintLast

theorem next_nil (w : World) : Calls Try.prog 10 #[.pointer none] w fun e w' => e = .returned (.tuple #[.agg #[.int .i64 0, .int .u16 0, .int .i64 0, .int .u8 0, .int .u8 0, .int .u8 0, .int .u8 0, .int .u8 0, .int .u8 0, .int .u8 0, .int .u8 0, .bool false, .int .i64 0], .bool false]) ∧ Below w.heap.size w w' := by
  have hbw := Aside0.mk (below_alloc (Below.refl w.heap.size w) (.cells #[.int .i64 0, .int .u16 0, .int .i64 0, .int .u8 0, .int .u8 0, .int .u8 0, .int .u8 0, .int .u8 0, .int .u8 0, .int .u8 0, .int .u8 0, .bool false, .int .i64 0] 35))
  have hnw := Aside0.mk (heap_alloc_new w (.cells #[.int .i64 0, .int .u16 0, .int .i64 0, .int .u8 0, .int .u8 0, .int .u8 0, .int .u8 0, .int .u8 0, .int .u8 0, .int .u8 0, .int .u8 0, .bool false, .int .i64 0] 35))
  go_enter Try.func10, Try.ntmps10
  go_wp2_with (fail)
  refine bodyPost_ret (next_res _ _ w.heap.size sn0 _ rfl rfl hnw.out) rfl ?_
  exact ⟨rfl, hbw.out⟩
theorem send_nil (w : World) (nd : Int) (x : Sn) : Calls Try.prog 8 #[.pointer none, .int .i64 nd, .agg #[.int .u16 x.id, .int .i64 x.len, .int .u8 x.x0, .int .u8 x.x1, .int .u8 x.x2, .int .u8 x.x3, .int .u8 x.x4, .int .u8 x.x5, .int .u8 x.x6, .int .u8 x.x7, .bool x.rem]] w fun e w' => e = .returned (.int .i64 1) ∧ Below w.heap.size w w' := by
  have hbw := Aside0.mk (below_alloc (Below.refl w.heap.size w) (.cells #[.int .u16 x.id, .int .i64 x.len, .int .u8 x.x0, .int .u8 x.x1, .int .u8 x.x2, .int .u8 x.x3, .int .u8 x.x4, .int .u8 x.x5, .int .u8 x.x6, .int .u8 x.x7, .bool x.rem] 32))
  go_enter Try.func8, Try.ntmps8
  go_wp2_with (fail)
  go_ret
  exact ⟨rfl, hbw.out⟩
theorem gone_nil (w : World) (nd : Int) : Calls Try.prog 18 #[.pointer none, .int .i64 nd] w fun e w' => e = .returned (.int .i64 0) ∧ Below w.heap.size w w' := by
  have hbw := Aside0.mk (below_alloc (Below.refl w.heap.size w) (.cells #[.int .i64 nd] 3))
  go_enter Try.func18, Try.ntmps18
  go_wp2_with (fail)
  go_ret
  exact ⟨rfl, hbw.out⟩
theorem waits_nil (w : World) : Calls Try.prog 11 #[.pointer none] w fun e w' => e = .returned (.slice none 0 0) ∧ w' = w := by
  go_enter Try.func11, Try.ntmps11
  go_wp2_with (fail)
  go_ret
  exact ⟨rfl, rfl⟩
theorem count_nil (w : World) : Calls Try.prog 12 #[.pointer none] w fun e w' => e = .returned (.int .i64 0) ∧ w' = w := by
  go_enter Try.func12, Try.ntmps12
  go_wp2_with (fail)
  go_ret
  exact ⟨rfl, rfl⟩
theorem copy_nil (w : World) : Calls Try.prog 14 #[.pointer none] w fun e w' => e = .returned (.pointer none) ∧ w' = w := by
  go_enter Try.func14, Try.ntmps14
  go_wp2_with (fail)
  go_ret
  exact ⟨rfl, rfl⟩
theorem zero_eq0 (w : World) : (Op.equalIn 10000 35 (.agg #[.int .i64 0, .int .u16 0, .int .i64 0, .int .u8 0, .int .u8 0, .int .u8 0, .int .u8 0, .int .u8 0, .int .u8 0, .int .u8 0, .int .u8 0, .bool false, .int .i64 0]) (.agg #[.int .i64 0, .int .u16 0, .int .i64 0, .int .u8 0, .int .u8 0, .int .u8 0, .int .u8 0, .int .u8 0, .int .u8 0, .int .u8 0, .int .u8 0, .bool false, .int .i64 0])).run Try.prog w = .ok true w := by kernel_rfl
set_option maxHeartbeats 4000000 in
set_option maxRecDepth 100000 in
theorem none_any (nd : Int) (x : Sn) (w : World) : Calls Try.prog 5 #[.int .i64 nd, .agg #[.int .u16 x.id, .int .i64 x.len, .int .u8 x.x0, .int .u8 x.x1, .int .u8 x.x2, .int .u8 x.x3, .int .u8 x.x4, .int .u8 x.x5, .int .u8 x.x6, .int .u8 x.x7, .bool x.rem]] w (WorkSaid w) := by
  have hz := zero_eq0
  have hbw := below_alloc (Below.refl w.heap.size w) (.cells #[.int .u16 x.id, .int .i64 x.len, .int .u8 x.x0, .int .u8 x.x1, .int .u8 x.x2, .int .u8 x.x3, .int .u8 x.x4, .int .u8 x.x5, .int .u8 x.x6, .int .u8 x.x7, .bool x.rem] 32)
  have hnw := heap_alloc_new w (.cells #[.int .u16 x.id, .int .i64 x.len, .int .u8 x.x0, .int .u8 x.x1, .int .u8 x.x2, .int .u8 x.x3, .int .u8 x.x4, .int .u8 x.x5, .int .u8 x.x6, .int .u8 x.x7, .bool x.rem] 32)
  have HW := Aside0.mk hbw
  have HNW := Aside0.mk hnw
  clear hbw hnw
  go_enter Try.func5, Try.ntmps5
  go_wp2_with (fail)
  refine (next_nil _).mono ?_
  rintro e w1 ⟨rfl, hb1⟩
  have hal := below_alloc (Below.refl w1.heap.size w1) (.cells #[.int .i64 0, .int .u16 0, .int .i64 0, .int .u8 0, .int .u8 0, .int .u8 0, .int .u8 0, .int .u8 0, .int .u8 0, .int .u8 0, .int .u8 0, .bool false, .int .i64 0] 35)
  have hxx := heap_alloc_new w1 (.cells #[.int .i64 0, .int .u16 0, .int .i64 0, .int .u8 0, .int .u8 0, .int .u8 0, .int .u8 0, .int .u8 0, .int .u8 0, .int .u8 0, .int .u8 0, .bool false, .int .i64 0] 35)
  have hfr := blk_below (blk_below HNW.out hb1) hal
  have HW1 := Aside0.mk (show Below w.heap.size w (w1.alloc (.cells #[.int .i64 0, .int .u16 0, .int .i64 0, .int .u8 0, .int .u8 0, .int .u8 0, .int .u8 0, .int .u8 0, .int .u8 0, .int .u8 0, .int .u8 0, .bool false, .int .i64 0] 35)) from HW.out.trans ((hb1.trans (hal.mono hb1.size)).mono HW.out.size))
  have HXX := Aside0.mk hxx
  obtain ⟨f0, f1, f2, f3, f4, f5, f6, f7, f8, f9, f10, -⟩ := fm_at (show (w1.alloc (.cells #[.int .i64 0, .int .u16 0, .int .i64 0, .int .u8 0, .int .u8 0, .int .u8 0, .int .u8 0, .int .u8 0, .int .u8 0, .int .u8 0, .int .u8 0, .bool false, .int .i64 0] 35)).heap[w.heap.size]? = some (.cells (Fm.cells ⟨x.id, x.len, [x.x0, x.x1, x.x2, x.x3, x.x4, x.x5, x.x6, x.x7], x.rem⟩) 32 (0, 0)) from hfr)
  clear hb1 hal hxx hfr HW HNW
  go_wp2_with (fail)
  obtain ⟨t, ht⟩ : ∃ t, w1.heap.size = t := ⟨_, rfl⟩
  rw [ht] at HXX
  rw [ht]
  clear ht f0 f1 f2 f3 f4 f5 f6 f7 f8 f9 f10
  generalize w1.alloc (.cells #[.int .i64 0, .int .u16 0, .int .i64 0, .int .u8 0, .int .u8 0, .int .u8 0, .int .u8 0, .int .u8 0, .int .u8 0, .int .u8 0, .int .u8 0, .bool false, .int .i64 0] 35) = W1 at HW1 HXX ⊢
  refine (send_nil W1 nd x).mono ?_
  rintro e w2 ⟨rfl, hb2⟩
  obtain ⟨g0, g1, g2, g3, g4, g5, g6, g7, g8, g9, g10, g11, g12, -⟩ := sn_at (s := sn0) (blk_below HXX.out hb2)
  simp only [sn0] at g0 g1 g2 g3 g4 g5 g6 g7 g8 g9 g10 g11 g12
  have HW2 := Aside0.mk (HW1.out.trans (hb2.mono HW1.out.size))
  clear hb2
  go_wp2_with (fail)
  refine (gone_nil w2 nd).mono ?_
  rintro e w3 ⟨rfl, hb3⟩
  have HW3 := Aside0.mk (HW2.out.trans (hb3.mono HW2.out.size))
  clear hb3 g0 g1 g2 g3 g4 g5 g6 g7 g8 g9 g10 g11 g12
  go_wp2_with (fail)
  refine (waits_nil w3).mono ?_
  rintro e w4 ⟨rfl, rfl⟩
  go_wp2_with (fail)
  refine (count_nil w4).mono ?_
  rintro e w5 ⟨rfl, rfl⟩
  go_wp2_with (fail)
  refine (copy_nil w5).mono ?_
  rintro e w6 ⟨rfl, rfl⟩
  go_wp2_with (fail)
  refine (works_any w6).mono ?_
  rintro e w7 ⟨rfl, hb7⟩
  have HW7 := Aside0.mk (HW3.out.trans (hb7.mono HW3.out.size))
  clear hb7
  go_wp2_with (fail)
  go_ret
  exact ⟨rfl, HW7.out⟩
end Go.Proofs.Ytnjmohdfnicpdaa.Bus
