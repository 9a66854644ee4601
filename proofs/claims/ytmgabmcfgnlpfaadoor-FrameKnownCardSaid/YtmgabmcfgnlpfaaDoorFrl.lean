/- FrameReads: any text is a frame, or refused, as the document says. -/
import Derived.Test.YtmgabmcfgnlpfaaDoorWrk
import Derived.Test.YtmgabmcfgnlpfaaDoorRrf
namespace Go.Proofs.YtmgabmcfgnlpfaaDoor.Frm
open Go.RowKit Go.Proofs.YtmgabmcfgnlpfaaDoorW.PrintWords Go.Proofs.YtmgabmcfgnlpfaaDoorW.PrintMore Go.Proofs.YtmgabmcfgnlpfaaDoorW.PrintLast

theorem reads_len {s : List UInt8} {f : Fm} {k : Int} (h : Reads s f k) : f.d.length = 8 := by
  rcases h with ⟨h, _⟩ | ⟨_, rfl, _⟩
  · exact h.dl
  · rfl
theorem eq_self (i n x0 x1 x2 x3 x4 x5 x6 x7 : Int) (b : Bool) (W : World) :
    (Op.equalIn 10000 25 (.agg #[.int .u16 i, .int .i64 n, .int .u8 x0, .int .u8 x1, .int .u8 x2, .int .u8 x3, .int .u8 x4, .int .u8 x5, .int .u8 x6, .int .u8 x7, .bool b]) (.agg #[.int .u16 i, .int .i64 n, .int .u8 x0, .int .u8 x1, .int .u8 x2, .int .u8 x3, .int .u8 x4, .int .u8 x5, .int .u8 x6, .int .u8 x7, .bool b])).run Tryd.prog W = .ok true W := by
  obtain ⟨q, hq, h⟩ := fm_dec ⟨i, n, [x0, x1, x2, x3, x4, x5, x6, x7], b⟩ ⟨i, n, [x0, x1, x2, x3, x4, x5, x6, x7], b⟩ rfl rfl
  have : q = true := hq.2 rfl
  subst this
  exact h W
theorem lit_cells (i n x0 x1 x2 x3 x4 x5 x6 x7 : Int) (b : Bool) : Fm.cells ⟨i, n, [x0, x1, x2, x3, x4, x5, x6, x7], b⟩ = #[.int .u16 i, .int .i64 n, .int .u8 x0, .int .u8 x1, .int .u8 x2, .int .u8 x3, .int .u8 x4, .int .u8 x5, .int .u8 x6, .int .u8 x7, .bool b] := rfl
set_option maxHeartbeats 2000000 in
set_option maxRecDepth 100000 in
theorem reads_any (s : ByteArray) (w : World) :
    Calls Tryd.prog 3 #[.string s] w fun e w' => e = .returned (.bool true) ∧ Below w.heap.size w w' := by
  by_cases hs : s.size ≤ 1000
  · have heq := eq_self
    go_enter Tryd.func3, Tryd.ntmps3
    go_wp2_with (first
      | (go_at_call 7; refine (read_any s _ (by omega)).mono ?_; rintro e w1 ⟨⟨⟨i, n, d, b⟩, k, rfl, hrd⟩, hb⟩; obtain ⟨x0, x1, x2, x3, x4, x5, x6, x7, rfl⟩ := eight (reads_len hrd); have HRD := Aside0.mk hrd; have HB1 := Aside0.mk hb; clear hb hrd; rw [lit_cells])
      | (go_at_call 8; refine (rread_any s _).mono ?_; rintro e w2 ⟨⟨f, k', rfl, hrd⟩, hb⟩; obtain ⟨rfl, rfl⟩ := reads_one hrd HRD.out; have HF2 := Aside0.mk (after_call hb).1; have HB2 := Aside0.mk (HB1.out.trans ((after_call hb).2.mono HB1.out.size)); clear hb hrd; obtain ⟨c0, c1, c2, c3, c4, c5, c6, c7, c8, c9, c10, _⟩ := fm_lit HF2.out; have hlt2 : w1.heap.size < w2.heap.size := blk_lt HF2.out; rw [lit_cells])
      | (go_at_call 9; refine (works_any _).mono ?_; rintro e w3 ⟨rfl, hb⟩; have HB3 := Aside0.mk ((HB2.out.alloc HB2.out.size _).trans (hb.mono (by have := HB2.out.size; simp; omega))); clear hb))
    go_ret
    exact ⟨rfl, HB3.out⟩
  · go_enter Tryd.func3, Tryd.ntmps3
    go_wp2
    go_ret
    exact ⟨rfl, Below.refl _ _⟩
end Go.Proofs.YtmgabmcfgnlpfaaDoor.Frm
